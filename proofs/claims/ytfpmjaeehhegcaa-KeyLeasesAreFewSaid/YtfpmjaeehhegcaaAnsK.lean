/- Words for the program's office, which gives leases in place; answer of the program, where nothing turns. Conditions: as stated. -/
import Derived.Test.YtfpmjaeehhegcaaAnsT
namespace Go.Proofs.Ytfpmjaeehhegcaa
open Go.RowKit

/-- The world w' is w but for block o, one more block, and new ones. -/
structure Fr (w w' : World) (o : Nat) (row : Option Nat) : Prop where
  os : w'.os = w.os
  tape : w'.tape = w.tape
  output : w'.output = w.output
  size : w.heap.size ≤ w'.heap.size
  block : ∀ k, k < w.heap.size → k ≠ o → some k ≠ row → w'.heap[k]? = w.heap[k]?
theorem Fr.of_ext {w w' : World} (h : Ext w w') (o : Nat) (row : Option Nat) : Fr w w' o row := ⟨h.os, h.tape, h.output, h.size, fun k hk _ _ => h.block k hk⟩
theorem Fr.blk {w w' : World} {o g : Nat} {row : Option Nat} {t : TypeId} {cs : Array Value} (h : Fr w w' o row) (hb : Blk w g t cs) (ho : g ≠ o) (hr : some g ≠ row) : Blk w' g t cs := (h.block g hb.lt ho hr).trans hb
/-- The office: seats and leases, behind a pointer. -/
structure OffAt (w : World) (o B : Nat) (sA : Option Addr) (sn sc : Nat) (L : List SeatV) (hA : Option Addr) (hn hc : Nat) (hs : List HeldV) : Prop where
  blk : Blk w o 55 #[.slice sA sn sc, .slice hA hn hc]
  seats : At w 3 eS sA sn sc L
  own : Own w B 83 3 eHd (.slice hA hn hc) hs
  lt : o < B
  sb : ∀ b off, 0 < sn → sA = some ⟨b, off, none⟩ → b < B
/-- An answer, the office behind it, and what has turned. -/
def OffGives (w : World) (o B : Nat) (sA : Option Addr) (sn sc : Nat) (L : List SeatV) (row : Option Nat) (r : (Int × Int) × List HeldV) (e : Ending) (w' : World) : Prop :=
  ∃ hA' hn' hc', e = .returned (.agg #[.int .i64 r.1.1, .int .i64 r.1.2]) ∧ OffAt w' o B sA sn sc L hA' hn' hc' r.2 ∧ Fr w w' o row ∧
    ((Value.slice hA' hn' hc').ownBlock = row ∨ ∃ g, (Value.slice hA' hn' hc').ownBlock = some g ∧ w.heap.size ≤ g)
theorem At.grown4 {α : Type} {w w' : World} {sz : Nat} {enc : α → List Value} {A : Option Addr} {n c : Nat} {xs : List α} (h : At w sz enc A n c xs) {row : Option Nat} (hg : w.grownBy w' row)
    (hne : ∀ a, A = some a → some a.block ≠ row) : At w' sz enc A n c xs :=
  ⟨h.len, h.le, h.max, h.none_, fun k x hx => by
    obtain ⟨b, off, e, hc⟩ := h.cells k x hx
    exact ⟨b, off, e, fun j u hu => hg.cell (hc j u hu) (by have := hne _ e; simpa using this)⟩⟩
section
variable {o B : Nat} {sA hA : Option Addr} {sn sc hn hc : Nat} {L : List SeatV} {hs : List HeldV} {t kd : Int} {u s : ByteArray} {w : World}
theorem OffAt.ext {w' : World} (h : OffAt w o B sA sn sc L hA hn hc hs) (he : Ext w w') : OffAt w' o B sA sn sc L hA hn hc hs := ⟨h.blk.ext he, h.seats.ext he, h.own.ext he, h.lt, h.sb⟩
set_option maxRecDepth 100000 in
set_option maxHeartbeats 2000000 in
theorem keyAns_denied (h : OffAt w o B sA sn sc L hA hn hc hs) (hk : L.findIdx? (seatP u) = none) :
    Calls Try.prog 24 #[.pointer (some ⟨o, 0, none⟩), .agg #[.int .i64 t, .string u, .string s, .int .i64 kd]] w (OffGives w o B sA sn sc L (Value.slice hA hn hc).ownBlock ((14, 0), hs)) := by
  have HX : Hid (Ext w ((w.alloc (.cells #[.int .i64 t, .string u, .string s, .int .i64 kd] 33)).alloc (.cells #[.int .i64 0, .int .i64 0] 37))) := hide (ext_alloc (Ext.alloc _ _) _)
  have HCL := hide (fun (W : World) hW => ans_cells w t u s kd (W := W) hW)
  have HI := hide (fun (W : World) (hW : Ext ((w.alloc (.cells #[.int .i64 t, .string u, .string s, .int .i64 kd] 33)).alloc (.cells #[.int .i64 0, .int .i64 0] 37)) W) =>
    idxS_any (ptr := .pointer (some ⟨w.heap.size, 0, none⟩)) (p := seatP u) (enters_of Try.func43 (by kernel_rfl) rfl) (fun x W' hW' => clo1_any x W' (HCL.out W' (Ext.trans hW hW')).1.2.1) (h.seats.ext (Ext.trans HX.out hW)))
  rw [idx_none hk] at HI
  have H := hide h
  have o0 := (h.blk.ext HX.out).cell 0
  clear h hk
  go_enter Try.func24, Try.ntmps24
  go_wp2_with fail
  refine (HI.out _ (Ext.refl _)).mono ?_
  rintro e w1 ⟨rfl, e1⟩
  obtain ⟨⟨a0, a1, a2, a3⟩, ⟨c0, c1⟩, ⟨f0, f1⟩, z1, b1⟩ := HCL.out w1 e1
  have HB := hide b1
  have E1 := hide (Ext.trans HX.out e1)
  clear b1 e1
  go_wp2_with fail
  refine gen_body fun W3 h3 => ?_
  have B3 : Blk W3 (w.heap.size + 1) 37 #[.int .i64 14, .int .i64 0] := by rw [h3]; exact (HB.out.set_ 0 _).set_ 1 _
  have E3 : Ext w W3 := by
    have ew := E1.out
    rw [h3]
    exact (by repeat' (first | (with_reducible exact Below.refl _ _) | (with_reducible assumption) | (with_reducible refine below_drewN ?_ _) | (with_reducible refine Below.drew ?_) | (with_reducible refine ext_alloc ?_ _) | (with_reducible refine Below.setCell ?_ ?_ _) | go_size))
  have k0 := B3.cell 0
  have k1 := B3.cell 1
  clear h3 a0 a1 a2 a3 c0 c1 f0 f1 z1
  refine bodyPost_ret (v := .agg #[.int .i64 14, .int .i64 0]) (by simp [results, Try.results24, go_sem, k0, k1]) rfl ⟨_, _, _, rfl, H.out.ext E3, Fr.of_ext E3 _ _, .inl rfl⟩
end
end Go.Proofs.Ytfpmjaeehhegcaa
