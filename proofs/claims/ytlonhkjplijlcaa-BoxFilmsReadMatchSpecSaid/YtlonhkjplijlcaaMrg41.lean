/- Several texts in one: Walk: expect (the reference's reader of films); places laid open. Conditions as stated; Walk: bytesAt (the reference's reader of films). Conditions as stated; The reference's reader of films, the second half. No condition. -/
import Derived.Test.YtlonhkjplijlcaaMrg39
import Derived.Test.YtlonhkjplijlcaaMrg40
import Derived.Test.YtlonhkjplijlcaaMrg08
import Derived.BigQuiet
import Derived.Test.YtlonhkjplijlcaaMrg33
namespace Go.Proofs.Ytlonhkjplijlcaa
open Go.RowKit
set_option linter.unusedVariables false in
set_option maxRecDepth 100000 in
set_option maxHeartbeats 4000000 in
theorem expect_good {w : World} {rb : Nat} {bS dv tv bv : Value} {sc : Int} (p : Int) (hB : Blk w rb 85 (fiC bS sc tv bv dv (-1))) :
    Calls Try.prog 33 #[.pointer (some ⟨rb, 0, none⟩), .bool true, .int .i64 p] w fun e w' => e = .returned (.bool true) ∧ w = w' := by
  have x5 : w.cell? ⟨rb, 5, none⟩ = some (.int .i64 (-1)) := hB.cell 5
  clear hB
  go_enter Try.func33, Try.ntmps33
  go_wp2_with fail
  go_ret
  exact ⟨rfl, rfl⟩
set_option linter.unusedVariables false in
set_option maxRecDepth 100000 in
set_option maxHeartbeats 4000000 in
theorem expect_bad {w : World} {rb : Nat} {bS dv tv bv : Value} {sc : Int} (p : Nat) (hB : Blk w rb 85 (fiC bS sc tv bv dv (-1))) :
    Calls Try.prog 33 #[.pointer (some ⟨rb, 0, none⟩), .bool false, .int .i64 (p : Int)] w fun e w' => e = .returned (.bool false) ∧ Blk w' rb 85 (fiC bS sc tv bv dv (p : Int)) ∧ Tw w w' rb none := by
  have x5 : w.cell? ⟨rb, 5, none⟩ = some (.int .i64 (-1)) := hB.cell 5
  have f5 := hB.frozen 5
  have HB := hide hB
  have hp : ¬ (p : Int) < 0 := by omega
  clear hB
  go_enter Try.func33, Try.ntmps33
  go_wp2_with fail
  go_ret
  exact ⟨rfl, HB.out.set_ 5 _, Tw.set_ _ _ _ _ _⟩
set_option linter.unusedVariables false in
set_option maxRecDepth 100000 in
set_option maxHeartbeats 4000000 in
theorem expect_old {w : World} {rb : Nat} {bS dv tv bv : Value} {sc : Int} (ok : Bool) (p : Int) (a : Nat) (hB : Blk w rb 85 (fiC bS sc tv bv dv (a : Int))) :
    Calls Try.prog 33 #[.pointer (some ⟨rb, 0, none⟩), .bool ok, .int .i64 p] w fun e w' => e = .returned (.bool false) ∧ w = w' := by
  have x5 : w.cell? ⟨rb, 5, none⟩ = some (.int .i64 (a : Int)) := hB.cell 5
  have hp : ¬ (a : Int) < 0 := by omega
  clear hB
  cases ok with
  | true =>
    go_enter Try.func33, Try.ntmps33
    go_wp2_with fail
    go_ret
    exact ⟨rfl, rfl⟩
  | false =>
    go_enter Try.func33, Try.ntmps33
    go_wp2_with fail
    go_ret
    exact ⟨rfl, rfl⟩
/-- A place's cells are those of a node; its kids are places below. -/
structure PlC (w : World) (B : Nat) (y : PlH) (x : NodeT) : Prop where
  kind : y.kind = x.kind
  beg : y.beg = x.beg
  dat : y.dat = x.dat
  en : y.en = x.en
  kids : PlsAt w (fun k => k < B) y.kA y.kn y.kc x.kids
structure PlO (w : World) (B : Nat) (A : Option Addr) (n c : Nat) (hs : List PlH) (l : List NodeT) : Prop where
  at_ : At w 5 ePl A n c hs
  low : InG (fun k => k < B) A
  len : l.length = n
  hd : ∀ i, i < n → PlC w B (hs.getD i default) (l.getD i dN)
theorem PlC.below {w w' : World} {B : Nat} {y : PlH} {x : NodeT} (h : PlC w B y x) (hB : Below B w w') : PlC w' B y x :=
  ⟨h.kind, h.beg, h.dat, h.en, h.kids.good hB.block (fun _ hk => hk)⟩
theorem PlO.below {w w' : World} {B : Nat} {A : Option Addr} {n c : Nat} {hs : List PlH} {l : List NodeT} (h : PlO w B A n c hs l) (hB : Below B w w') : PlO w' B A n c hs l :=
  ⟨h.at_.good h.low hB.block, h.low, h.len, fun i hi => (h.hd i hi).below hB⟩
theorem pls_open {w : World} {B : Nat} {A : Option Addr} {n c : Nat} {l : List NodeT} (h : PlsAt w (fun k => k < B) A n c l) : ∃ hs, PlO w B A n c hs l := by
  cases h with
  | mk hs l h hg hl h1 h2 =>
    have hn := h.len
    refine ⟨hs, h, hg, by omega, fun i hi => ?_⟩
    have e1 : hs[i]? = some (hs.getD i default) := by rw [List.getD_eq_getElem?_getD, List.getElem?_eq_getElem (by omega)]; rfl
    have e2 : l[i]? = some (l.getD i dN) := by rw [List.getD_eq_getElem?_getD, List.getElem?_eq_getElem (by omega)]; rfl
    obtain ⟨k1, b1, b2, b3⟩ := h1 i _ _ e1 e2
    exact ⟨k1, b1, b2, b3, h2 i _ _ e1 e2⟩
/-- Blocks of other kinds than the file's are kept. -/
def KpF (w w' : World) : Prop := ∀ (t : TypeId) (cs : Array Value), t ≠ 85 → t ≠ 53 → t ≠ 73 → ∀ g, Blk w g t cs → Blk w' g t cs
theorem KpF.ofExt {w w' : World} (h : Ext w w') : KpF w w' := fun _ _ _ _ _ _ hb => hb.ext h
theorem KpF.chain {a b c : World} (h : KpF a b) (k : KpF b c) : KpF a c := fun t cs h1 h2 h3 g hb => k t cs h1 h2 h3 g (h t cs h1 h2 h3 g hb)
theorem KpF.ofTw {w w' : World} {rb : Nat} {cs : Array Value} (ho : Blk w rb 85 cs) (hT : Tw w w' rb none) : KpF w w' := fun _ _ h1 _ _ _ hb => Blk.off hb ho hT h1
/-- What is known at the head of the loop over the edits. -/
structure EdF (w wr wx : World) (tb : Nat) (nm : List UInt8) (sc : Int) (C : List UInt8) (q : Nat) (eA : Option Addr) (en ec : Nat) : Prop where
  trk : Blk wx tb 53 #[.string ⟨nm.toArray⟩, .int .i64 sc, .slice none 0 0, .slice eA en ec]
  ed : Own wx w.heap.size 95 2 e2 (.slice eA en ec) (edK C q)
  ext : Ext w wx
  keep : ∀ t cs, t ≠ 53 → t ≠ 95 → ∀ g, Blk wr g t cs → Blk wx g t cs
theorem sgnR_8 {l : List UInt8} (h : l.length = 8) : sgnR l = sgn8 l := by unfold sgnR; rw [if_neg (by omega)]; rfl
theorem badI_lt (s : Rd) : (badI s < 0) ↔ s.bad = false := by unfold badI; cases s.bad <;> simp
theorem rt_right {C : List UInt8} (h : C.length ≤ 1000000) : (rtF C = 0 → badI (rtE C) < 0 ∧ rtV C = rtT C) ∧ (rtF C ≠ 0 → ¬ badI (rtE C) < 0) := by
  have hb := badI_lt (rtE C)
  unfold rtV
  unfold rtF
  rw [if_neg (by omega)]
  cases hq : (rtE C).bad with
  | true => simp [hb, hq]
  | false => simp [hb, hq]
/-- What the region that appends a track reads. -/
def S26 (rb tb : Nat) (tv : Value) (nm : List UInt8) (sc : Int) (eA : Option Addr) (en ec : Nat) (W : World) : Prop :=
  W.cell? ⟨rb, 2, none⟩ = some tv ∧ W.cell? ⟨tb, 0, none⟩ = some (.string ⟨nm.toArray⟩) ∧ W.cell? ⟨tb, 1, none⟩ = some (.int .i64 sc) ∧ W.cell? ⟨tb, 2, none⟩ = some (.slice none 0 0) ∧ W.cell? ⟨tb, 3, none⟩ = some (.slice eA en ec)
theorem S26.of {W : World} {rb tb : Nat} {bS dv : Value} {sc : Int} {tv bv : Value} {a : Int} {nm : List UInt8} {s : Int} {eA : Option Addr} {en ec : Nat} (h : Blk W rb 85 (fiC bS sc tv bv dv a)) (hg : Blk W tb 53 #[.string ⟨nm.toArray⟩, .int .i64 s, .slice none 0 0, .slice eA en ec]) : S26 rb tb tv nm s eA en ec W :=
  ⟨h.cell 2, hg.cell 0, hg.cell 1, hg.cell 2, hg.cell 3⟩
/-- What the region that appends a table reads. -/
def S24 (rb gb : Nat) (bv : Value) (y : TbH) (W : World) : Prop :=
  W.cell? ⟨rb, 3, none⟩ = some bv ∧ W.cell? ⟨gb, 0, none⟩ = some (.int .i64 y.start) ∧ W.cell? ⟨gb, 1, none⟩ = some (.slice y.sA y.sn y.sc) ∧ W.cell? ⟨gb, 2, none⟩ = some (.slice y.hA y.hn y.hc) ∧ W.cell? ⟨gb, 3, none⟩ = some (.slice y.zA y.zn y.zc) ∧ W.cell? ⟨gb, 4, none⟩ = some (.slice y.kA y.kn y.kc) ∧ W.cell? ⟨gb, 5, none⟩ = some (.slice y.cA y.cn y.cc) ∧ W.cell? ⟨gb, 6, none⟩ = some (.slice y.pA y.pn y.pc)
theorem S24.of {W : World} {rb gb : Nat} {bS dv : Value} {sc : Int} {tv bv : Value} {a : Int} {y : TbH} (h : Blk W rb 85 (fiC bS sc tv bv dv a)) (hg : Blk W gb 73 #[.int .i64 y.start, .slice y.sA y.sn y.sc, .slice y.hA y.hn y.hc, .slice y.zA y.zn y.zc, .slice y.kA y.kn y.kc, .slice y.cA y.cn y.cc, .slice y.pA y.pn y.pc]) : S24 rb gb bv y W :=
  ⟨h.cell 3, hg.cell 0, hg.cell 1, hg.cell 2, hg.cell 3, hg.cell 4, hg.cell 5, hg.cell 6⟩
/-- What track gives. -/
def FtG (w : World) (rb : Nat) (bS dv : Value) (sc : Int) (hs : List TrkH) (l : List TrkT) (ts : List TbH) (tl : List Tab) (r : Rdr TrR) (e : Ending) (w' : World) : Prop :=
  e = .returned (.tuple #[]) ∧ KpF w w' ∧ Below rb w w' ∧ (∀ x, r = .ok x → ∃ tv' bv' y z, FiI w' rb bS sc tv' bv' dv (-1) (hs ++ [y]) (l ++ [⟨x.name, x.scale, [], x.ed⟩]) (ts ++ [z]) (tl ++ [x.tab])) ∧
    (∀ a' : Nat, r = .bad a' → ∃ tv' bv', Blk w' rb 85 (fiC bS sc tv' bv' dv (a' : Int)))
theorem FtG.bad {w w' : World} {rb : Nat} {bS dv : Value} {sc : Int} {hs : List TrkH} {l : List TrkT} {ts : List TbH} {tl : List Tab} {r : Rdr TrR} {a' : Nat} {tv' bv' : Value} (hr : r = .bad a') (hp : KpF w w') (hb : Below rb w w') (hk : Blk w' rb 85 (fiC bS sc tv' bv' dv (a' : Int))) : FtG w rb bS dv sc hs l ts tl r (.returned (.tuple #[])) w' :=
  ⟨rfl, hp, hb, fun x hx => (by rw [hr] at hx; cases hx), fun a2 ha => by rw [hr] at ha; cases ha; exact ⟨_, _, hk⟩⟩
/-- What is known at the head of the loop over the kids, all being well. -/
structure FkI (w wr : World) (rb nb tb sb : Nat) (bS dv : Value) (sc : Int) (hs : List TrkH) (l : List TrkT) (ts : List TbH) (tl : List Tab) (b : List UInt8) (y : PlH) (x : NodeT) (k : Nat) (tv bv bv' : Value) (eA : Option Addr) (en ec : Nat) : Prop where
  nod : Blk wr nb 87 #[.string ⟨y.kind.toArray⟩, .int .i64 (y.beg : Int), .int .i64 (y.dat : Int), .int .i64 (x.en : Int), .slice y.kA y.kn y.kc]
  trk : Blk wr tb 53 #[.string ⟨(nmK b x k).toArray⟩, .int .i64 (scK b x k), .slice none 0 0, .slice eA en ec]
  str : Blk wr sb 9 #[.string ⟨kName.toArray⟩, .string ⟨kRate.toArray⟩, .string ⟨kEdit.toArray⟩, .string ⟨kTabl.toArray⟩]
  ed : Own wr w.heap.size 95 2 e2 (.slice eA en ec) (edKK b x k)
  kp : KpF w wr
  low : Below rb w wr
  ext : k ≤ 3 → Ext w wr ∧ bv' = bv
  rd : 4 ≤ k → ∃ z, FiI wr rb bS sc tv bv' dv (-1) hs l (ts ++ [z]) (tl ++ [rtV (ctB b (x.kids.getD 3 dN))])
  oks : ∀ j, j < k → okK b x j
  lo2 : w.heap.size ≤ nb ∧ w.heap.size ≤ tb ∧ w.heap.size ≤ sb
/-- The same, something being wrong. -/
structure FkB (w wr : World) (rb nb tb : Nat) (bS dv : Value) (sc : Int) (hs : List TrkH) (y : PlH) (x : NodeT) (tv : Value) (a : Nat) : Prop where
  nod : Blk wr nb 87 #[.string ⟨y.kind.toArray⟩, .int .i64 (y.beg : Int), .int .i64 (y.dat : Int), .int .i64 (x.en : Int), .slice y.kA y.kn y.kc]
  trk : ∃ (nm : List UInt8) (s : Int) (eA : Option Addr) (en ec : Nat), Blk wr tb 53 #[.string ⟨nm.toArray⟩, .int .i64 s, .slice none 0 0, .slice eA en ec]
  blk : ∃ bv', Blk wr rb 85 (fiC bS sc tv bv' dv (a : Int))
  own : Own wr (rb + 1) 53 4 eTk tv hs
  kp : KpF w wr
  low : Below rb w wr
theorem FkI.next {w wr w' : World} {rb nb tb sb : Nat} {bS dv : Value} {sc : Int} {hs : List TrkH} {l : List TrkT} {ts : List TbH} {tl : List Tab} {b : List UInt8} {y : PlH} {x : NodeT} {k : Nat} {tv bv bv' : Value} {eA : Option Addr} {en ec : Nat} {eA' : Option Addr} {en' ec' : Nat}
    (h : FkI w wr rb nb tb sb bS dv sc hs l ts tl b y x k tv bv bv' eA en ec) (hk : k ≤ 2) (hr : rb < w.heap.size) (hE2 : Ext w w') (hn : ∀ t cs, t ≠ 53 → t ≠ 95 → ∀ g, Blk wr g t cs → Blk w' g t cs) (hb : Blk w' tb 53 #[.string ⟨(nmK b x (k + 1)).toArray⟩, .int .i64 (scK b x (k + 1)), .slice none 0 0, .slice eA' en' ec'])
    (he : Own w' w.heap.size 95 2 e2 (.slice eA' en' ec') (edKK b x (k + 1))) (ho : okK b x k) : FkI w w' rb nb tb sb bS dv sc hs l ts tl b y x (k + 1) tv bv bv' eA' en' ec' := by
  obtain ⟨hE, hbv⟩ := h.ext (by omega)
  refine ⟨hn _ _ (by decide) (by decide) _ h.nod, hb, hn _ _ (by decide) (by decide) _ h.str, he, KpF.ofExt hE2, Below.ofExt hE2 (by omega), fun _ => ⟨hE2, hbv⟩, fun h4 => by omega, fun j hj => ?_, h.lo2⟩
  rcases Nat.lt_succ_iff_lt_or_eq.1 hj with h1 | h1
  · exact h.oks j h1
  · rw [h1]; exact ho
end Go.Proofs.Ytlonhkjplijlcaa
namespace Go.Proofs.Ytlonhkjplijlcaa
open Go.RowKit
/-- Whether bytes are all in one of some boxes. -/
def baE (x : NodeT) (P Z : Nat) : Bool := decide (x.dat ≤ P ∧ P + Z ≤ x.en)
def baR (D : List NodeT) (P Z : Nat) : Bool := (D.any fun x => baE x P Z) || decide (Z = 0)
theorem baR_yes {D : List NodeT} {P Z k : Nat} (hk : k < D.length) (h : baE (D.getD k dN) P Z = true) : baR D P Z = true := by
  have e2 : D.getD k dN ∈ D := by rw [List.getD_eq_getElem?_getD, List.getElem?_eq_getElem hk]; exact List.getElem_mem hk
  unfold baR
  rw [List.any_eq_true.2 ⟨_, e2, h⟩]; rfl
theorem baR_no {D : List NodeT} {P Z : Nat} (h : ∀ j, j < D.length → baE (D.getD j dN) P Z = false) : baR D P Z = decide (Z = 0) := by
  unfold baR
  have : (D.any fun x => baE x P Z) = false := by
    rw [List.any_eq_false]
    intro x hx
    obtain ⟨j, hj, rfl⟩ := List.getElem_of_mem hx
    have := h j hj
    rw [List.getD_eq_getElem?_getD, List.getElem?_eq_getElem hj] at this
    simp only [Option.getD_some] at this
    rw [this]; simp
  rw [this]; rfl
/-- What bytesAt gives. -/
def BaG (w : World) (b : List UInt8) (D : List NodeT) (P Z : Nat) (e : Ending) (w' : World) : Prop :=
  Ext w w' ∧ ∃ cA cn cc, e = .returned (.tuple #[.slice cA cn cc, .bool (baR D P Z)]) ∧ (baR D P Z = true → At w' 1 e8 cA cn cc (pcB b P (P + Z)))
set_option linter.unusedVariables false in
set_option linter.unusedSimpArgs false in
set_option maxRecDepth 100000 in
set_option maxHeartbeats 8000000 in
theorem bytesAt_any {w : World} {rb : Nat} {bA : Option Addr} {bn bc : Nat} {dA : Option Addr} {dn dc : Nat} {tv bv : Value} {sc a : Int} {b : List UInt8} {ds : List PlH} {D : List NodeT} {P Z : Nat}
    (hB : Blk w rb 85 (fiC (.slice bA bn bc) sc tv bv (.slice dA dn dc) a)) (hd : At w 5 ePl dA dn dc ds) (hl : D.length = dn) (hD : ∀ i, i < dn → (ds.getD i default).dat = (D.getD i dN).dat ∧ (ds.getD i default).en = (D.getD i dN).en) (hen : ∀ i, i < dn → (D.getD i dN).en ≤ bn) (hb : At w 1 e8 bA bn bc b) (hb6 : bn ≤ 1000000) (hp : P ≤ 1000000000) (hz : Z ≤ 100000) :
    Calls Try.prog 36 #[.pointer (some ⟨rb, 0, none⟩), .agg #[.int .i64 (P : Int), .int .i64 (Z : Int)]] w (BaG w b D P Z) := by
  have hbd := hd.bound
  have HB := hide hB
  have HD := hide hd
  have HDD := hide hD
  have HEN := hide hen
  have HBB := hide hb
  have hbn := hb.len
  have hbc := hb.le
  have HYES := hide (fun (k : Nat) (hk : k < dn) (h : baE (D.getD k dN) P Z = true) => baR_yes (by omega) h)
  have HNO := hide (fun (h : ∀ j, j < dn → baE (D.getD j dN) P Z = false) => baR_no (fun j hj => h j (by omega)))
  have ew : IntKind.i64.wrap ((P : Int) + (Z : Int)) = (P : Int) + (Z : Int) := by rw [IntKind.wrap_i64]; omega
  have E0 := hide (Ext.alloc w (.cells #[.int .i64 (P : Int), .int .i64 (Z : Int)] 78))
  have S0 := hide (Blk.new w 78 #[.int .i64 (P : Int), .int .i64 (Z : Int)])
  clear hB hd hD hen hb
  go_enter Try.func36, Try.ntmps36
  go_wp2_with fail
  refine gen_wpC fun w0 h0 => ?_
  rw [← h0] at E0 S0
  obtain ⟨sb, hsb⟩ : ∃ sb, sb = w.heap.size := ⟨_, rfl⟩
  rw [← hsb] at S0 ⊢
  clear h0 hsb
  go_loopw [6] (fun ri wr => ∃ k : Nat, k ≤ dn ∧ ri = .int .i64 (k : Int) ∧ Hid (∀ j, j < k → baE (D.getD j dN) P Z = false) ∧ Hid (Ext w0 wr)) (fun ri _ => dn - (intOf ri).toNat)
  case atStart => exact ⟨0, by omega, rfl, hide (fun j hj => by omega), hide (Ext.refl _)⟩
  case round =>
    obtain ⟨k, hk, rfl, HA, HX⟩ := hrel
    have EX := hide (Ext.trans E0.out HX.out)
    have x3 : wr.cell? ⟨rb, 4, none⟩ = some (.slice dA dn dc) := (HB.out.ext EX.out).cell 4
    have x0 : wr.cell? ⟨rb, 0, none⟩ = some (.slice bA bn bc) := (HB.out.ext EX.out).cell 0
    have z0 : wr.cell? ⟨sb, 0, none⟩ = some (.int .i64 (P : Int)) := (S0.out.ext HX.out).cell 0
    have z1 : wr.cell? ⟨sb, 1, none⟩ = some (.int .i64 (Z : Int)) := (S0.out.ext HX.out).cell 1
    by_cases hlt : k < dn
    · have hat := HD.out.ext EX.out
      obtain ⟨oA, pA, rfl, _⟩ := hat.addr (by omega)
      obtain ⟨u, hu⟩ : ∃ u, ds.getD k default = u := ⟨_, rfl⟩
      obtain ⟨d1, d2⟩ := HDD.out k hlt
      have hel := HEN.out k hlt
      rw [hu] at d1 d2
      obtain ⟨uk, ug, ud, ue, uA, un, uc⟩ := u
      have d1 : ud = (D.getD k dN).dat := d1
      have d2 : ue = (D.getD k dN).en := d2
      have a2 : wr.cell? ⟨oA, pA + k * 5 + 2, none⟩ = some (.int .i64 (ud : Int)) := hat.cellK hlt default 2 _ (by rw [hu]; rfl)
      have a3 : wr.cell? ⟨oA, pA + k * 5 + 3, none⟩ = some (.int .i64 (ue : Int)) := hat.cellK hlt default 3 _ (by rw [hu]; rfl)
      have hue : ue ≤ bn := by omega
      have HBE : Hid (baE (D.getD k dN) P Z = decide (ud ≤ P ∧ P + Z ≤ ue)) := hide (by unfold baE; rw [← d1, ← d2])
      have HY := hide (HYES.out k hlt)
      have HS : Hid (baE (D.getD k dN) P Z = false → ∀ j, j < k + 1 → baE (D.getD j dN) P Z = false) := hide (fun h0 j hj => by
        rcases Nat.lt_succ_iff_lt_or_eq.1 hj with h | h
        · exact HA.out j h
        · rw [h]; exact h0)
      have i1 : (k : Int) < (dn : Int) := by omega
      have i0 : (0 : Int) ≤ (k : Int) := by omega
      have i8 : IntKind.i64.wrap ((k : Int) + 1) = (k : Int) + 1 := by rw [IntKind.wrap_i64]; omega
      clear hat hu d1 d2 hel
      go_upto_region 4 with (fail)
      by_cases h1 : ud ≤ P
      · have j1 : (ud : Int) ≤ (P : Int) := by omega
        by_cases h2 : P + Z ≤ ue
        · have j2 : (P : Int) + (Z : Int) ≤ (ue : Int) := by omega
          have HE := hide (HY.out (by rw [HBE.out]; simp [h1, h2]))
          go_quiet (fail)
          go_upto_region 5 with (fail)
          refine gen_wpC fun w3 h3 => ?_
          have E3 : Hid (Ext wr w3) := hide (by rw [h3]; exact Ext.drewN _ _)
          clear h3 x0 z0 z1 x3 a2 a3
          have x0 : w3.cell? ⟨rb, 0, none⟩ = some (.slice bA bn bc) := ((HB.out.ext EX.out).ext E3.out).cell 0
          have z0 : w3.cell? ⟨sb, 0, none⟩ = some (.int .i64 (P : Int)) := ((S0.out.ext HX.out).ext E3.out).cell 0
          have z1 : w3.cell? ⟨sb, 1, none⟩ = some (.int .i64 (Z : Int)) := ((S0.out.ext HX.out).ext E3.out).cell 1
          have HB3 := hide (HBB.out.ext (Ext.trans EX.out E3.out))
          obtain ⟨cA, hr, ha⟩ := HB3.out.range_ Try.underlying26 (fun _ => by kernel_rfl) (k := P) (m := P + Z) (by omega) (by omega) (P : Int) ((P : Int) + (Z : Int)) rfl (by omega)
          rw [show P + Z - P = Z by omega] at hr ha
          have HAT := hide (fun (W : World) (hW : Ext w3 W) => (show At W 1 e8 cA Z (bc - P) (pcB b P (P + Z)) from by unfold pcB; rw [show P + Z - P = Z by omega]; exact ha W (HB3.out.ext hW)))
          clear ha
          go_quiet (fail)
          go_wp2_with fail
          go_ret2
          exact ⟨Ext.trans EX.out (Ext.trans E3.out (Ext.drewN _ _)), cA, Z, bc - P, by rw [HE.out] <;> rfl, fun _ => HAT.out _ (Ext.drewN _ _)⟩
        · have j2 : ¬ (P : Int) + (Z : Int) ≤ (ue : Int) := by omega
          have HE := hide (HS.out (by rw [HBE.out]; simp [h2]))
          go_quiet (fail)
          go_wp2_with fail
          go_roundw
          case measure => simp [intOf]; omega
          exact ⟨k + 1, by omega, by go_num, HE, hide (Ext.trans HX.out (Ext.drewN _ _))⟩
      · have j1 : ¬ (ud : Int) ≤ (P : Int) := by omega
        have HE := hide (HS.out (by rw [HBE.out]; simp [h1]))
        go_quiet (fail)
        go_wp2_with fail
        go_roundw
        case measure => simp [intOf]; omega
        exact ⟨k + 1, by omega, by go_num, HE, hide (Ext.trans HX.out (Ext.drewN _ _))⟩
    · obtain rfl : k = dn := by omega
      have HE := hide (HNO.out HA.out)
      have i1 : ¬ (k : Int) < (k : Int) := by omega
      clear hlt hk
      go_upto_region 6 with (fail)
      by_cases hz0 : Z = 0
      · subst hz0
        go_quiet (fail)
        go_wp2_with fail
        go_ret2
        exact ⟨Ext.trans EX.out (Ext.drewN _ _), none, 0, 0, by rw [HE.out] <;> rfl, fun _ => by unfold pcB; rw [Nat.add_zero, Nat.sub_self, List.take_zero]; exact At.nil _ _ _⟩
      · have hz1 : ¬ ((Z : Int) = 0) := by omega
        have hz2 : ((Z : Int) == 0) = false := by simpa using hz1
        have hz3 : (Z == 0) = false := by simpa using hz0
        go_quiet (fail)
        go_wp2_with fail
        go_ret2
        exact ⟨Ext.trans EX.out (Ext.drewN _ _), none, 0, 0, by rw [HE.out, decide_eq_false hz0] <;> rfl, fun h => by rw [HE.out, decide_eq_false hz0] at h; cases h⟩
end Go.Proofs.Ytlonhkjplijlcaa
namespace Go.Proofs.Ytlonhkjplijlcaa
open Go.RowKit
/-- The reader's rows, and nothing of theirs lies in one block. -/
structure FiN (w : World) (rb : Nat) (bS : Value) (sc : Int) (tv bv dv : Value) (a : Int) (hs : List TrkH) (l : List TrkT) (ts : List TbH) (tl : List Tab) (no : Option Nat) : Prop where
  blk : Blk w rb 85 (fiC bS sc tv bv dv a)
  trk : Own w (rb + 1) 53 4 eTk tv hs
  tab : Own w (rb + 1) 73 7 eTb bv ts
  len : hs.length = l.length
  lenB : ts.length = tl.length
  els : ∃ G : Nat → Prop, (∀ k, G k → rb < k ∧ k < w.heap.size ∧ tv.ownBlock ≠ some k ∧ bv.ownBlock ≠ some k ∧ some k ≠ no) ∧ (∀ (i : Nat) (y : TrkH) (x : TrkT), hs[i]? = some y → l[i]? = some x → TkG w G y x) ∧ (∀ (i : Nat) (y : TbH) (x : Tab), ts[i]? = some y → tl[i]? = some x → TbOk w G y x)
theorem FiN.of {w w' : World} {rb : Nat} {bS dv : Value} {sc : Int} {tv bv : Value} {a : Int} {hs : List TrkH} {l : List TrkT} {ts : List TbH} {tl : List Tab} {no : Option Nat} (h : FiI w rb bS sc tv bv dv a hs l ts tl) (he : Ext w w') (hno : ∀ q, no = some q → w.heap.size ≤ q) : FiN w' rb bS sc tv bv dv a hs l ts tl no := by
  obtain ⟨h1, h2, h3, h4, h5, hd, G, g1, g2, g3⟩ := h
  have hk : ∀ k, G k → w'.heap[k]? = w.heap[k]? := fun k hk => he.block k (g1 k hk).2.1
  exact ⟨h1.ext he, h2.ext he, h3.ext he, h4, h5, G, fun k hk => ⟨(g1 k hk).1, Nat.lt_of_lt_of_le (g1 k hk).2.1 he.size, (g1 k hk).2.2.1, (g1 k hk).2.2.2.1, fun e => by have := (g1 k hk).2.1; have := hno k e.symm; omega⟩, fun i y x hy hx => (g2 i y x hy hx).good hk (fun _ h => h), fun i y x hy hx => (g3 i y x hy hx).good hk (fun _ h => h)⟩
theorem FiN.ext {w w' : World} {rb : Nat} {bS dv : Value} {sc : Int} {tv bv : Value} {a : Int} {hs : List TrkH} {l : List TrkT} {ts : List TbH} {tl : List Tab} {no : Option Nat} (h : FiN w rb bS sc tv bv dv a hs l ts tl no) (he : Ext w w') : FiN w' rb bS sc tv bv dv a hs l ts tl no := by
  obtain ⟨h1, h2, h3, h4, h5, G, g1, g2, g3⟩ := h
  have hk : ∀ k, G k → w'.heap[k]? = w.heap[k]? := fun k hk => he.block k (g1 k hk).2.1
  exact ⟨h1.ext he, h2.ext he, h3.ext he, h4, h5, G, fun k hk => ⟨(g1 k hk).1, Nat.lt_of_lt_of_le (g1 k hk).2.1 he.size, (g1 k hk).2.2⟩, fun i y x hy hx => (g2 i y x hy hx).good hk (fun _ h => h), fun i y x hy hx => (g3 i y x hy hx).good hk (fun _ h => h)⟩
theorem FiN.smp {w : World} {rb : Nat} {bS dv : Value} {sc : Int} {tO tn tc : Nat} {bv : Value} {a : Int} {hs : List TrkH} {l : List TrkT} {ts : List TbH} {tl : List Tab} {no : Option Nat} {i : Nat} {sA : Option Addr} {sn sc' : Nat} {sm : List Smp}
    (h : FiN w rb bS sc (.slice (some ⟨tO, 0, none⟩) tn tc) bv dv a hs l ts tl no) (hi : i < tn) (ho : Own w (rb + 1) 55 5 eSm (.slice sA sn sc') sm) (hno : ∀ g, (Value.slice sA sn sc').ownBlock = some g → no ≠ some g) :
    FiN (w.setCell ⟨tO, i * 4 + 2, none⟩ (.slice sA sn sc')) rb bS sc (.slice (some ⟨tO, 0, none⟩) tn tc) bv dv a (setH hs i sA sn sc') (setS l i sm) ts tl no := by
  obtain ⟨h1, h2, h3, h4, h5, G, g1, g2, g3⟩ := h
  obtain ⟨cur, hcur, _, _, _, hln, _, hlo⟩ := h2.rowN
  have hT := Tw.set_ w tO (i * 4 + 2) (.slice sA sn sc') none
  have hk : ∀ k, G k → (w.setCell ⟨tO, i * 4 + 2, none⟩ (.slice sA sn sc')).heap[k]? = w.heap[k]? := fun k hk => hT.block k (g1 k hk).2.1 (fun e => (g1 k hk).2.2.1 (by rw [e]; rfl)) (by simp)
  have hk2 : ∀ k, (Value.slice sA sn sc').ownBlock = some k → (w.setCell ⟨tO, i * 4 + 2, none⟩ (.slice sA sn sc')).heap[k]? = w.heap[k]? := fun k hk => hT.block k (ho.lt k hk).2 (fun e => ho.apartB hcur (by decide) (by rw [hk, e])) (by simp)
  refine ⟨Blk.off h1 hcur hT (by decide), h2.setAt len_eTk i default _ 2 _ hi (by omega) rfl, h3.tw hT (h3.apartB hcur (by decide)) (by simp), by unfold setH setS; rw [List.length_set, List.length_set]; exact h4, h5, fun k => G k ∨ (Value.slice sA sn sc').ownBlock = some k, fun k hk => ?_, fun j y x hy hx => ?_, fun j y x hy hx => (g3 j y x hy hx).good hk (fun _ h => .inl h)⟩
  · rcases hk with hk | hk
    · exact ⟨(g1 k hk).1, Nat.lt_of_lt_of_le (g1 k hk).2.1 hT.size, (g1 k hk).2.2⟩
    · exact ⟨by have := (ho.lt k hk).1; omega, Nat.lt_of_lt_of_le (ho.lt k hk).2 hT.size, fun e => ho.apart h2 (by decide) k hk e, fun e => ho.apart h3 (by decide) k hk e, fun e => hno k hk e.symm⟩
  · unfold setH at hy
    unfold setS at hx
    rcases get_set hy with ⟨rfl, rfl⟩ | ⟨hj, hy1⟩
    · rcases get_set hx with ⟨_, rfl⟩ | ⟨hj, _⟩
      · have e1 : hs[j]? = some (hs.getD j default) := by rw [List.getD_eq_getElem?_getD, List.getElem?_eq_getElem (by omega)]; rfl
        have e2 : l[j]? = some (l.getD j default) := by rw [List.getD_eq_getElem?_getD, List.getElem?_eq_getElem (by omega)]; rfl
        have q := (g2 j _ _ e1 e2).good hk (fun _ h => h)
        exact ⟨⟨q.ok.1, q.ok.2.1, (ho.atS len_eSm).goodH (G := fun k => (Value.slice sA sn sc').ownBlock = some k) (fun _ a ha => by subst ha; rfl) hk2, q.ok.2.2.2⟩, fun _ a ha => .inr (by subst ha; rfl), q.l2.mono (fun _ h => .inl h)⟩
      · exact absurd rfl hj
    · rcases get_set hx with ⟨e, _⟩ | ⟨_, hx1⟩
      · exact absurd e hj
      · exact (g2 j y x hy1 hx1).good hk (fun _ h => .inl h)
/-- Another row of the call's grows. -/
theorem FiN.grown {w w' : World} {rb : Nat} {bS dv : Value} {sc : Int} {tv bv : Value} {a : Int} {hs : List TrkH} {l : List TrkT} {ts : List TbH} {tl : List Tab} {no no' : Option Nat} {α : Type} {b1 : Nat} {t1 : TypeId} {s1 : Nat} {e1 : α → List Value} {v1 : Value} {x1 : List α} (h : FiN w rb bS sc tv bv dv a hs l ts tl no) (ho : Own w b1 t1 s1 e1 v1 x1) (hno : no = v1.ownBlock) (hg : w.grownBy w' no) (t0 : 85 ≠ t1) (t2 : t1 ≠ 53) (t3 : t1 ≠ 73) (hn' : no' = no ∨ no' = some w.heap.size) : FiN w' rb bS sc tv bv dv a hs l ts tl no' := by
  subst hno
  obtain ⟨h1, h2, h3, h4, h5, G, g1, g2, g3⟩ := h
  have hk : ∀ k, G k → w'.heap[k]? = w.heap[k]? := fun k hk => hg.block k (g1 k hk).2.1 (g1 k hk).2.2.2.2
  refine ⟨(hg.block rb h1.lt (fun e => ho.apartB h1 (Ne.symm t0) e.symm)).trans h1, h2.kept hg ?_, h3.kept hg ?_, h4, h5, G, fun k hk => ⟨(g1 k hk).1, Nat.lt_of_lt_of_le (g1 k hk).2.1 hg.size, (g1 k hk).2.2.1, (g1 k hk).2.2.2.1, ?_⟩, fun i y x hy hx => (g2 i y x hy hx).good hk (fun _ h => h), fun i y x hy hx => (g3 i y x hy hx).good hk (fun _ h => h)⟩
  · cases hv : tv.ownBlock with
    | none => exact .inl rfl
    | some g => exact .inr (fun e => ho.apart h2 t2 g e.symm hv)
  · cases hv : bv.ownBlock with
    | none => exact .inl rfl
    | some g => exact .inr (fun e => ho.apart h3 t3 g e.symm hv)
  · rcases hn' with e | e
    · rw [e]; exact (g1 k hk).2.2.2.2
    · rw [e]; intro e2; injection e2 with e2; have := (g1 k hk).2.1; omega
theorem Own.keep {α : Type} {w w' : World} {base : Nat} {t : TypeId} {sz : Nat} {enc : α → List Value} {v : Value} {xs : List α} (h : Own w base t sz enc v xs) (hk : ∀ g cs, Blk w g t cs → Blk w' g t cs) : Own w' base t sz enc v xs := by
  refine ⟨h.1, ?_⟩
  rcases h.2 with h3 | ⟨g, cap, cur, hv, hb, hg, r⟩
  · exact .inl h3
  · exact .inr ⟨g, cap, cur, hv, hb, hk g cur hg, r⟩
/-- One more box data. -/
theorem FiI.data {w w3 : World} {rb : Nat} {bS dv dv' : Value} {sc : Int} {tv bv : Value} {a : Int} {hs : List TrkH} {l : List TrkT} {ts : List TbH} {tl : List Tab} {ds : List PlH} (h : FiI w rb bS sc tv bv dv a hs l ts tl) (ho : Own w (rb + 1) 87 5 ePl dv ds) (hz : w.heap.size ≤ w3.heap.size)
    (hk : ∀ k, k < w.heap.size → k ≠ rb → dv.ownBlock ≠ some k → w3.heap[k]? = w.heap[k]?) (hb : Blk w3 rb 85 (fiC bS sc tv bv dv' a)) (hd' : ∀ g, dv'.ownBlock = some g → g < w3.heap.size) (hn : dv'.ownBlock = dv.ownBlock ∨ ∃ q, w.heap.size ≤ q ∧ dv'.ownBlock = some q) : FiI w3 rb bS sc tv bv dv' a hs l ts tl := by
  obtain ⟨h1, h2, h3, h4, h5, hd, G, g1, g2, g3⟩ := h
  have kb : ∀ t g cs, t ≠ 85 → 87 ≠ t → Blk w g t cs → Blk w3 g t cs := fun t g cs n1 n2 hgb => by
    refine (hk g hgb.lt (fun e => ?_) (ho.apartB hgb n2)).trans hgb
    subst e
    have e2 : some (Obj.cells cs t (0, 0)) = some (Obj.cells _ _ (0, 0)) := Eq.trans (Eq.symm hgb) h1
    injection e2 with e2
    injection e2 with _ e2 _
    exact n1 e2
  have hG : ∀ k, G k → w3.heap[k]? = w.heap[k]? := fun k hq => hk k (g1 k hq).2.1 (by have := (g1 k hq).1; omega) (g1 k hq).2.2.2.2
  refine ⟨hb, h2.keep (fun g cs hgb => kb _ g cs (by decide) (by decide) hgb), h3.keep (fun g cs hgb => kb _ g cs (by decide) (by decide) hgb), h4, h5, hd', G, fun k hq => ⟨(g1 k hq).1, Nat.lt_of_lt_of_le (g1 k hq).2.1 hz, (g1 k hq).2.2.1, (g1 k hq).2.2.2.1, ?_⟩, fun i y x hy hx => (g2 i y x hy hx).good hG (fun _ h => h), fun i y x hy hx => (g3 i y x hy hx).good hG (fun _ h => h)⟩
  rcases hn with e | ⟨q, hq2, e⟩
  · rw [e]; exact (g1 k hq).2.2.2.2
  · rw [e]; intro e2; injection e2 with e2; have := (g1 k hq).2.1; omega
/-- What is known while tables are expanded. -/
structure ExF (w2 wr : World) (rb : Nat) (bS dv : Value) (sc : Int) (tv bv : Value) (r : List TrR) (i : Nat) (v : Value) (hs : List TrkH) (ts : List TbH) (hp : List (Option Addr × Nat × Nat)) (ds : List PlH) : Prop where
  rd : FiN wr rb bS sc tv bv dv (-1) hs (mixL r i) ts (r.map TrR.tab) v.ownBlock
  dat : Own wr (rb + 1) 87 5 ePl dv ds
  pls : Own wr (rb + 1) 74 1 eB1 v hp
  len : hp.length = i
  pok : ∀ j, j < i → Own wr (rb + 1) 78 2 e2 (.slice (hp.getD j dQ).1 (hp.getD j dQ).2.1 (hp.getD j dQ).2.2) (spS (r.getD j default).tab)
  low : Below rb w2 wr
theorem getD_app_left {α : Type} {l : List α} {x d : α} {j : Nat} (h : j < l.length) : (l ++ [x]).getD j d = l.getD j d := by
  rw [List.getD_eq_getElem?_getD, List.getD_eq_getElem?_getD, List.getElem?_append_left h]
theorem getD_app_last {α : Type} {l : List α} {x d : α} : (l ++ [x]).getD l.length d = x := by
  rw [List.getD_eq_getElem?_getD, List.getElem?_append_right (Nat.le_refl _), Nat.sub_self]; rfl
/-- One more table is expanded: its samples are stored, then its spots are appended. -/
theorem ExF.step {w2 wr w4 w6 w7 : World} {rb : Nat} {bS dv : Value} {sc : Int} {tO tn tc : Nat} {bv : Value} {r : List TrR} {i : Nat} {v v7 : Value} {hs : List TrkH} {ts : List TbH} {hp : List (Option Addr × Nat × Nat)} {ds : List PlH} {sA : Option Addr} {sn sc' : Nat} {pA : Option Addr} {pn pc B1 B2 : Nat}
    (h : ExF w2 wr rb bS dv sc (.slice (some ⟨tO, 0, none⟩) tn tc) bv r i v hs ts hp ds) (he : Ext wr w4) (hi : i < tn) (hr : i < r.length) (h1 : Own w4 B1 55 5 eSm (.slice sA sn sc') (exS (r.getD i default).tab)) (h2 : Own w4 B2 78 2 e2 (.slice pA pn pc) (spS (r.getD i default).tab)) (hB1 : rb + 1 ≤ B1) (hB2 : rb + 1 ≤ B2)
    (he2 : Ext (w4.setCell ⟨tO, i * 4 + 2, none⟩ (.slice sA sn sc')) w6) (ho : Own w7 (rb + 1) 74 1 eB1 v7 (hp ++ [(pA, pn, pc)])) (hg : w6.grownBy w7 v.ownBlock) (hr7 : v7.ownBlock = v.ownBlock ∨ v7.ownBlock = some w6.heap.size) :
    ExF w2 w7 rb bS dv sc (.slice (some ⟨tO, 0, none⟩) tn tc) bv r (i + 1) v7 (setH hs i sA sn sc') ts (hp ++ [(pA, pn, pc)]) ds := by
  have hrd4 := h.rd.ext he
  obtain ⟨cur, hcur⟩ := hrd4.trk.blkOf
  have hpl4 := h.pls.ext he
  have hT1 := Tw.set_ w4 tO (i * 4 + 2) (.slice sA sn sc') none
  have hq := hrd4.smp hi (h1.more hB1) (fun g hg e => (h1.more hB1).apart hpl4 (by decide) g hg e)
  rw [mixL_succ hr] at hq
  have hq6 := hq.ext he2
  have hpl6 := (hpl4.tw hT1 (hpl4.apartB hcur (by decide)) (by simp)).ext he2
  have key : ∀ {α : Type} {b1 : Nat} {t1 : TypeId} {s1 : Nat} {e1 : α → List Value} {v1 : Value} {x1 : List α}, Own w4 b1 t1 s1 e1 v1 x1 → t1 ≠ 53 → t1 ≠ 74 → Own w7 b1 t1 s1 e1 v1 x1 := fun {α b1 t1 s1 e1 v1 x1} hx n1 n2 => by
    have a1 := (hx.tw hT1 (hx.apartB hcur n1) (by simp)).ext he2
    exact a1.kept hg (by
      cases hv : v1.ownBlock with
      | none => exact .inl rfl
      | some g => exact .inr (fun e => a1.apart hpl6 n2 g hv e.symm))
  have hto := (hrd4.trk.lt tO rfl).1
  refine ⟨hq6.grown hpl6 rfl hg (by decide) (by decide) (by decide) hr7, key (h.dat.ext he) (by decide) (by decide), ho, by simp [h.len], fun j hj => ?_, ?_⟩
  · by_cases hji : j < i
    · rw [getD_app_left (by have := h.len; omega)]
      exact key ((h.pok j hji).ext he) (by decide) (by decide)
    · obtain rfl : j = i := by omega
      have e := getD_app_last (l := hp) (x := (pA, pn, pc)) (d := dQ)
      rw [h.len] at e
      rw [e]
      exact key (h2.more hB2) (by decide) (by decide)
  · have hsz := he2.size
    exact Below.chain h.low (Below.chain (Below.ofExt he (Nat.le_of_lt h.rd.blk.lt)) (Below.chain (Below.ofTw hT1 (Nat.le_of_lt hrd4.blk.lt) (by omega)) (Below.chain (Below.ofExt he2 (Nat.le_of_lt hq.blk.lt)) ((Below.refl rb w6).grown hg (Nat.le_of_lt hq6.blk.lt) (fun g e => by have := (hpl6.lt g e).1; omega)))))
end Go.Proofs.Ytlonhkjplijlcaa
