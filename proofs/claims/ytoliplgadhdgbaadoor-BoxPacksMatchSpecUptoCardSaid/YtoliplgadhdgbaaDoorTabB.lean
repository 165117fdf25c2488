/- Walk: chunksFault (program). Conditions as stated. -/
import Derived.Test.YtoliplgadhdgbaaDoorTabA
namespace Go.Proofs.YtoliplgadhdgbaaDoor
open Go.RowKit
/-- A table in memory. -/
structure TabAt (w : World) (sA : Option Addr) (sn sc : Nat) (hA : Option Addr) (hn hc : Nat) (zA : Option Addr) (zn zc : Nat) (kA : Option Addr) (kn kc : Nat) (cA : Option Addr) (cn cc : Nat) (pA : Option Addr) (pn pc : Nat) (t : Tab) : Prop where
  steps : At w 2 e2 sA sn sc t.steps
  shifts : At w 2 e2 hA hn hc t.shifts
  sizes : At w 1 e64 zA zn zc t.sizes
  keys : At w 1 e64 kA kn kc t.keys
  nok : kA = none ↔ t.nok = true
  chunks : At w 2 e2 cA cn cc t.chunks
  places : At w 1 e64 pA pn pc t.places
theorem TabAt.ext {w w' : World} {sA : Option Addr} {sn sc : Nat} {hA : Option Addr} {hn hc : Nat} {zA : Option Addr} {zn zc : Nat} {kA : Option Addr} {kn kc : Nat} {cA : Option Addr} {cn cc : Nat} {pA : Option Addr} {pn pc : Nat} {t : Tab}
    (h : TabAt w sA sn sc hA hn hc zA zn zc kA kn kc cA cn cc pA pn pc t) (he : Ext w w') : TabAt w' sA sn sc hA hn hc zA zn zc kA kn kc cA cn cc pA pn pc t :=
  ⟨h.steps.ext he, h.shifts.ext he, h.sizes.ext he, h.keys.ext he, h.nok, h.chunks.ext he, h.places.ext he⟩
end Go.Proofs.YtoliplgadhdgbaaDoor
