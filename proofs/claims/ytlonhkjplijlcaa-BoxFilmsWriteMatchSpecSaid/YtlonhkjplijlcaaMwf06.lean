/- Taking an operation of a drawn region first, its slot told. Conditions: as stated. -/
import Derived.Test.YtlonhkjplijlcaaMwf05
namespace Go.Proofs.Ytlonhkjplijlcaa
open Go.RowKit
theorem AnyZ.takeE {P : Program} {ops : Array Oper} {Q : Exit → Act → World → Prop} {md : Region.Mode} {S : World → Prop} {z : Nat} {i d : Nat} {oi oz : Oper} {v : Value} {n : Nat} {L : Array Bool} {a : Act} {w : World} (hi : ops[i]? = some oi) (hd : oi.dst = some d) (hz : ops[z]? = some oz)
    (hzi : (oz.after.any fun e => Region.binds md e && e.on == i) = true) (hne : (z == i) = false) (hs : Region.noSelect ops = true) (hf : Region.free md ops L i = true) (hr : (Region.ready md ops L).contains i = true) (hLz : L.getD z true = false)
    (hQ : ∀ c a w, Q (.panic c) (a.put oi.dst v) w → Q (.panic c) a w) (hy : YieldsIf P ops S oi v a) (hS : S w)
    (h : AnyZ P md ops Q S z n (L.setIfInBounds i true) (a.put (some d) v) w) : AnyZ P md ops Q S z (n + 1) L a w :=
  AnyZ.take hi hz hzi hne hs hf hr hLz hQ hy hS (by rw [hd]; exact h)
theorem AnyZ.takePE {P : Program} {ops : Array Oper} {Q : Exit → Act → World → Prop} {md : Region.Mode} {S : World → Prop} {z : Nat} {i d : Nat} {oi : Oper} {v : Value} {n : Nat} {L : Array Bool} {a : Act} {w : World} (hi : ops[i]? = some oi) (hd : oi.dst = some d)
    (hne : (z == i) = false) (hs : Region.noSelect ops = true) (hf : Region.free md ops L i = true) (hr : (Region.ready md ops L).contains i = true)
    (hQ : ∀ c a w, Q (.panic c) (a.put oi.dst v) w → Q (.panic c) a w) (hy : YieldsIf P ops (fun _ => True) oi v a) (hS : S w)
    (h : AnyZ P md ops Q S z n (L.setIfInBounds i true) (a.put (some d) v) w) : AnyZ P md ops Q S z (n + 1) L a w :=
  AnyZ.takeP hi hne hs hf hr hQ hy hS (by rw [hd]; exact h)
/-- The same behind z. -/
theorem AnyZ.takeZE {P : Program} {ops : Array Oper} {Q : Exit → Act → World → Prop} {md : Region.Mode} {S : World → Prop} {z : Nat} {i d : Nat} {oi : Oper} {v : Value} {n : Nat} {L : Array Bool} {a : Act} {w : World} (hi : ops[i]? = some oi) (hd : oi.dst = some d)
    (hne : (z == i) = false) (hs : Region.noSelect ops = true) (hf : Region.free md ops L i = true) (hr : (Region.ready md ops L).contains i = true) (hLz : L.getD z true = true)
    (hQ : ∀ c a w, Q (.panic c) (a.put oi.dst v) w → Q (.panic c) a w) (hy : YieldsIf P ops (fun _ => True) oi v a)
    (h : AnyZ P md ops Q S z n (L.setIfInBounds i true) (a.put (some d) v) w) : AnyZ P md ops Q S z (n + 1) L a w :=
  AnyZ.firstP hi (by simpa using hne) (Region.noSelect_spec hs) hQ n L a w (Region.free_spec hi hf) (by simpa using hr) hy (fun h0 => by rw [hLz] at h0; cases h0) (by rw [hd]; exact h)
end Go.Proofs.Ytlonhkjplijlcaa
