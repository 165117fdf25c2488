/- Several texts in one: The steps of a track that is read, in plain words. No condition; The steps of a film that is read, in plain words. No condition; Walk: expanded (reference). Conditions as stated. -/
import Derived.Test.YtkbmgakehlmcnaaMtq41
import Derived.Test.YtkbmgakehlmcnaaMtq17
import Derived.Test.YtkbmgakehlmcnaaMtq26
import Derived.Test.YtkbmgakehlmcnaaMtq34
import Derived.Test.YtkbmgakehlmcnaaMtq24
import Derived.Test.YtkbmgakehlmcnaaMtq37
import Derived.Test.YtkbmgakehlmcnaaMtq02
namespace Go.Proofs.Ytkbmgakehlmcnaa
open Go.RowKit
def kK : Nat → List UInt8
  | 0 => kName
  | 1 => kRate
  | 2 => kEdit
  | _ => kTabl
def chK4 (b : List UInt8) (x : NodeT) : Nat → Prop
  | 1 => (ctB b x).length = 4
  | 2 => (ctB b x).length % 16 = 0
  | 3 => rtF (ctB b x) = 0
  | _ => True
def okK (b : List UInt8) (n : NodeT) (j : Nat) : Prop := kidR n.kids j (kK j) n.en = .ok (n.kids.getD j dN) ∧ chK4 b (n.kids.getD j dN) j
theorem trkR_kid {b : List UInt8} {n : NodeT} {k a : Nat} (hk : k < 4) (h : ∀ j, j < k → okK b n j) (hb : kidR n.kids k (kK k) n.en = .bad a) : trkR b n = .bad a := by
  unfold trkR
  match k, hk with
  | 0, _ => rw [show kidR n.kids 0 kName n.en = _ from hb]; rfl
  | 1, _ =>
    rw [show kidR n.kids 0 kName n.en = _ from (h 0 (by omega)).1, show kidR n.kids 1 kRate n.en = _ from hb]; rfl
  | 2, _ =>
    have h1 : (ctB b (n.kids.getD 1 dN)).length = 4 := (h 1 (by omega)).2
    rw [show kidR n.kids 0 kName n.en = _ from (h 0 (by omega)).1, show kidR n.kids 1 kRate n.en = _ from (h 1 (by omega)).1, show kidR n.kids 2 kEdit n.en = _ from hb]
    simp only [Rdr.then, h1]
    rfl
  | 3, _ =>
    have h1 : (ctB b (n.kids.getD 1 dN)).length = 4 := (h 1 (by omega)).2
    have h2 : (ctB b (n.kids.getD 2 dN)).length % 16 = 0 := (h 2 (by omega)).2
    rw [show kidR n.kids 0 kName n.en = _ from (h 0 (by omega)).1, show kidR n.kids 1 kRate n.en = _ from (h 1 (by omega)).1, show kidR n.kids 2 kEdit n.en = _ from (h 2 (by omega)).1, show kidR n.kids 3 kTabl n.en = _ from hb]
    simp only [Rdr.then, h1, h2]
    rfl
theorem trkR_chk {b : List UInt8} {n : NodeT} {k : Nat} (hk : k < 4) (h : ∀ j, j < k → okK b n j) (hb : kidR n.kids k (kK k) n.en = .ok (n.kids.getD k dN)) (hc : ¬ chK4 b (n.kids.getD k dN) k) : trkR b n = .bad (n.kids.getD k dN).beg := by
  unfold trkR
  match k, hk with
  | 0, _ => exact absurd trivial hc
  | 1, _ =>
    have h1 : (ctB b (n.kids.getD 1 dN)).length ≠ 4 := hc
    rw [show kidR n.kids 0 kName n.en = _ from (h 0 (by omega)).1, show kidR n.kids 1 kRate n.en = _ from hb]
    simp only [Rdr.then]
    rw [if_pos h1]
  | 2, _ =>
    have h1 : (ctB b (n.kids.getD 1 dN)).length = 4 := (h 1 (by omega)).2
    have h2 : (ctB b (n.kids.getD 2 dN)).length % 16 ≠ 0 := hc
    rw [show kidR n.kids 0 kName n.en = _ from (h 0 (by omega)).1, show kidR n.kids 1 kRate n.en = _ from (h 1 (by omega)).1, show kidR n.kids 2 kEdit n.en = _ from hb]
    simp only [Rdr.then]
    rw [if_neg (by omega), if_pos h2]
  | 3, _ =>
    have h1 : (ctB b (n.kids.getD 1 dN)).length = 4 := (h 1 (by omega)).2
    have h2 : (ctB b (n.kids.getD 2 dN)).length % 16 = 0 := (h 2 (by omega)).2
    have h3 : rtF (ctB b (n.kids.getD 3 dN)) ≠ 0 := hc
    rw [show kidR n.kids 0 kName n.en = _ from (h 0 (by omega)).1, show kidR n.kids 1 kRate n.en = _ from (h 1 (by omega)).1, show kidR n.kids 2 kEdit n.en = _ from (h 2 (by omega)).1, show kidR n.kids 3 kTabl n.en = _ from hb]
    simp only [Rdr.then]
    rw [if_neg (by omega), if_neg (by omega), if_pos h3]
def trkE (b : List UInt8) (n : NodeT) : TrR := ⟨ctB b (n.kids.getD 0 dN), (numB (ctB b (n.kids.getD 1 dN)) : Int), edR (ctB b (n.kids.getD 2 dN)), rtV (ctB b (n.kids.getD 3 dN))⟩
theorem trkR_four {b : List UInt8} {n : NodeT} (h : ∀ j, j < 4 → okK b n j) : trkR b n = match n.kids[4]? with
  | some x4 => .bad x4.beg
  | none => .ok (trkE b n) := by
  unfold trkR
  have h1 : (ctB b (n.kids.getD 1 dN)).length = 4 := (h 1 (by omega)).2
  have h2 : (ctB b (n.kids.getD 2 dN)).length % 16 = 0 := (h 2 (by omega)).2
  have h3 : rtF (ctB b (n.kids.getD 3 dN)) = 0 := (h 3 (by omega)).2
  rw [show kidR n.kids 0 kName n.en = _ from (h 0 (by omega)).1, show kidR n.kids 1 kRate n.en = _ from (h 1 (by omega)).1, show kidR n.kids 2 kEdit n.en = _ from (h 2 (by omega)).1, show kidR n.kids 3 kTabl n.en = _ from (h 3 (by omega)).1]
  simp only [Rdr.then]
  rw [if_neg (by omega), if_neg (by omega), if_neg (by omega)]
  rfl
theorem trkR_five {b : List UInt8} {n : NodeT} (h : ∀ j, j < 4 → okK b n j) (h5 : 4 < n.kids.length) : trkR b n = .bad (n.kids.getD 4 dN).beg := by
  rw [trkR_four h, List.getD_eq_getElem?_getD, List.getElem?_eq_getElem h5]; rfl
theorem trkR_ok {b : List UInt8} {n : NodeT} (h : ∀ j, j < 4 → okK b n j) (h5 : n.kids.length ≤ 4) : trkR b n = .ok (trkE b n) := by
  rw [trkR_four h, List.getElem?_eq_none h5]
def nmK (b : List UInt8) (n : NodeT) : Nat → List UInt8
  | 0 => []
  | _ + 1 => ctB b (n.kids.getD 0 dN)
def scK (b : List UInt8) (n : NodeT) : Nat → Int
  | 0 => 0
  | 1 => 0
  | _ + 2 => (numB (ctB b (n.kids.getD 1 dN)) : Int)
def edKK (b : List UInt8) (n : NodeT) : Nat → List (Int × Int)
  | 0 => []
  | 1 => []
  | 2 => []
  | _ + 3 => edR (ctB b (n.kids.getD 2 dN))
theorem edK_len (c : List UInt8) : ∀ k, (edK c k).length = k
  | 0 => rfl
  | k + 1 => by rw [edK, List.length_append, edK_len c k]; rfl
def KpK (w w' : World) : Prop := ∀ (t : TypeId) (cs : Array Value), t ≠ 75 → t ≠ 47 → t ≠ 82 → ∀ g, Blk w g t cs → Blk w' g t cs
theorem KpK.ofExt {w w' : World} (h : Ext w w') : KpK w w' := fun _ _ _ _ _ _ hb => hb.ext h
theorem KpK.chain {a b c : World} (h : KpK a b) (k : KpK b c) : KpK a c := fun t cs h1 h2 h3 g hb => k t cs h1 h2 h3 g (h t cs h1 h2 h3 g hb)
theorem Blk.off {w w' : World} {g o : Nat} {t t' : TypeId} {cs cs' : Array Value} (h : Blk w g t cs) (ho : Blk w o t' cs') (hT : Tw w w' o none) (hne : t ≠ t') : Blk w' g t cs := hT.blk h (fun e => by
  subst e
  have e2 : some (Obj.cells cs t (0, 0)) = some (Obj.cells cs' t' (0, 0)) := h.symm.trans ho
  injection e2 with e2
  injection e2 with _ e2 _
  exact hne e2) (by simp)
theorem KpK.ofTw {w w' : World} {rb : Nat} {cs : Array Value} (ho : Blk w rb 75 cs) (hT : Tw w w' rb none) : KpK w w' := fun _ _ h1 _ _ _ hb => Blk.off hb ho hT h1
def TrG (w : World) (rb : Nat) (sc : Int) (a : Int) (hs : List TrkH) (l : List TrkT) (ts : List TbH) (tl : List Tab) (r : Rdr TrR) (e : Ending) (w' : World) : Prop :=
  KpK w w' ∧ Below rb w w' ∧ (∀ x, r = .ok x → e = .returned (.bool true) ∧ ∃ tv' bv' y z, RdI w' rb sc tv' bv' a (hs ++ [y]) (l ++ [⟨x.name, x.scale, [], x.ed⟩]) (ts ++ [z]) (tl ++ [x.tab])) ∧
    (∀ a' : Nat, r = .bad a' → e = .returned (.bool false) ∧ ∃ tv' bv', Blk w' rb 75 (frC sc tv' bv' (a' : Int)))
theorem TrG.bad {w w' : World} {rb : Nat} {sc : Int} {a : Int} {hs : List TrkH} {l : List TrkT} {ts : List TbH} {tl : List Tab} {r : Rdr TrR} {a' : Nat} {tv' bv' : Value} (hr : r = .bad a') (hp : KpK w w') (hb : Below rb w w') (hk : Blk w' rb 75 (frC sc tv' bv' (a' : Int))) : TrG w rb sc a hs l ts tl r (.returned (.bool false)) w' :=
  ⟨hp, hb, fun x hx => (by rw [hr] at hx; cases hx), fun a2 ha => by rw [hr] at ha; cases ha; exact ⟨rfl, _, _, hk⟩⟩
theorem Below.ofTw {w w' : World} {o C : Nat} (h : Tw w w' o none) (hC : C ≤ w.heap.size) (ho : C ≤ o) : Below C w w' := h.below hC ho (fun g e => by cases e)
theorem Below.ofExt {w w' : World} {C : Nat} (h : Ext w w') (hC : C ≤ w.heap.size) : Below C w w' := ⟨h.os, h.tape, h.output, h.size, fun k hk => h.block k (by omega)⟩
theorem Below.chain {a b c : World} {C : Nat} (h : Below C a b) (k : Below C b c) : Below C a c := ⟨k.os.trans h.os, k.tape.trans h.tape, k.output.trans h.output, Nat.le_trans h.size k.size, fun j hj => (k.block j hj).trans (h.block j hj)⟩
structure TkI (w wr : World) (rb nb tb sb : Nat) (sc : Int) (a : Int) (hs : List TrkH) (l : List TrkT) (ts : List TbH) (tl : List Tab) (b : List UInt8) (y : NodeH) (x : NodeT) (k : Nat) (tv bv bv' : Value) (eA : Option Addr) (en ec : Nat) : Prop where
  nod : Blk wr nb 122 #[.string ⟨y.box.kind.toArray⟩, .int .i64 y.box.form, .slice y.box.dA y.box.dn y.box.dc, .slice y.box.kA y.box.kn y.box.kc, .int .i64 (y.beg : Int), .int .i64 (y.dat : Int), .int .i64 (x.en : Int), .slice y.nA y.nn y.nc]
  trk : Blk wr tb 47 #[.string ⟨(nmK b x k).toArray⟩, .int .i64 (scK b x k), .slice none 0 0, .slice eA en ec]
  str : Blk wr sb 9 #[.string ⟨kName.toArray⟩, .string ⟨kRate.toArray⟩, .string ⟨kEdit.toArray⟩, .string ⟨kTabl.toArray⟩]
  ed : Own wr w.heap.size 112 2 e2 (.slice eA en ec) (edKK b x k)
  kp : KpK w wr
  low : Below rb w wr
  ext : k ≤ 3 → Ext w wr ∧ bv' = bv
  rd : 4 ≤ k → ∃ z, RdI wr rb sc tv bv' a hs l (ts ++ [z]) (tl ++ [rtV (ctB b (x.kids.getD 3 dN))])
  oks : ∀ j, j < k → okK b x j
  lo2 : w.heap.size ≤ nb ∧ w.heap.size ≤ tb ∧ w.heap.size ≤ sb
theorem Own.apartB {α : Type} {w : World} {b1 : Nat} {t1 t2 : TypeId} {s1 : Nat} {e1 : α → List Value} {v1 : Value} {x1 : List α} {g : Nat} {cs : Array Value} (h1 : Own w b1 t1 s1 e1 v1 x1) (h2 : Blk w g t2 cs) (hne : t1 ≠ t2) : v1.ownBlock ≠ some g := fun hg => by
  obtain ⟨c, fz, hc⟩ := Go.Lib.ownsRow_kind h1 g hg
  rw [show w.heap[g]? = _ from h2] at hc
  injection hc with e
  injection e with _ e _
  exact hne e.symm
theorem RdI.lt {w : World} {rb : Nat} {sc : Int} {tv bv : Value} {a : Int} {hs : List TrkH} {l : List TrkT} {ts : List TbH} {tl : List Tab} (h : RdI w rb sc tv bv a hs l ts tl) : rb < w.heap.size := h.blk.lt
theorem TkI.next {w wr w' : World} {rb nb tb sb : Nat} {sc a : Int} {hs : List TrkH} {l : List TrkT} {ts : List TbH} {tl : List Tab} {b : List UInt8} {y : NodeH} {x : NodeT} {k : Nat} {tv bv bv' : Value} {eA : Option Addr} {en ec : Nat} {eA' : Option Addr} {en' ec' : Nat}
    (h : TkI w wr rb nb tb sb sc a hs l ts tl b y x k tv bv bv' eA en ec) (hk : k ≤ 2) (hr : rb < w.heap.size) (hT : Tw wr w' tb none) (hb : Blk w' tb 47 #[.string ⟨(nmK b x (k + 1)).toArray⟩, .int .i64 (scK b x (k + 1)), .slice none 0 0, .slice eA' en' ec'])
    (he : Own w' w.heap.size 112 2 e2 (.slice eA' en' ec') (edKK b x (k + 1))) (ho : okK b x k) : TkI w w' rb nb tb sb sc a hs l ts tl b y x (k + 1) tv bv bv' eA' en' ec' := by
  obtain ⟨hE, hbv⟩ := h.ext (by omega)
  have hE2 : Ext w w' := tw_ext' hE hT h.lo2.2.1
  refine ⟨Blk.off h.nod h.trk hT (by decide), hb, Blk.off h.str h.trk hT (by decide), he, KpK.ofExt hE2, Below.ofExt hE2 (by omega), fun _ => ⟨hE2, hbv⟩, fun h4 => by omega, fun j hj => ?_, h.lo2⟩
  rcases Nat.lt_succ_iff_lt_or_eq.1 hj with h1 | h1
  · exact h.oks j h1
  · rw [h1]; exact ho
theorem TkI.next2 {w wr w' : World} {rb nb tb sb : Nat} {sc a : Int} {hs : List TrkH} {l : List TrkT} {ts : List TbH} {tl : List Tab} {b : List UInt8} {y : NodeH} {x : NodeT} {k : Nat} {tv bv bv' : Value} {eA : Option Addr} {en ec : Nat} {eA' : Option Addr} {en' ec' : Nat}
    (h : TkI w wr rb nb tb sb sc a hs l ts tl b y x k tv bv bv' eA en ec) (hk : k ≤ 2) (hr : rb < w.heap.size) (hE2 : Ext w w') (hn : ∀ t cs, t ≠ 47 → t ≠ 112 → ∀ g, Blk wr g t cs → Blk w' g t cs) (hb : Blk w' tb 47 #[.string ⟨(nmK b x (k + 1)).toArray⟩, .int .i64 (scK b x (k + 1)), .slice none 0 0, .slice eA' en' ec'])
    (he : Own w' w.heap.size 112 2 e2 (.slice eA' en' ec') (edKK b x (k + 1))) (ho : okK b x k) : TkI w w' rb nb tb sb sc a hs l ts tl b y x (k + 1) tv bv bv' eA' en' ec' := by
  obtain ⟨hE, hbv⟩ := h.ext (by omega)
  refine ⟨hn _ _ (by decide) (by decide) _ h.nod, hb, hn _ _ (by decide) (by decide) _ h.str, he, KpK.ofExt hE2, Below.ofExt hE2 (by omega), fun _ => ⟨hE2, hbv⟩, fun h4 => by omega, fun j hj => ?_, h.lo2⟩
  rcases Nat.lt_succ_iff_lt_or_eq.1 hj with h1 | h1
  · exact h.oks j h1
  · rw [h1]; exact ho
structure EdQ (w wr wx : World) (tb : Nat) (nm : List UInt8) (sc : Int) (C : List UInt8) (q : Nat) (ca : Option Addr) (n cc : Nat) (eA : Option Addr) (en ec : Nat) : Prop where
  dat : At w 1 e8 ca n cc (C.drop (16 * q))
  trk : Blk wx tb 47 #[.string ⟨nm.toArray⟩, .int .i64 sc, .slice none 0 0, .slice eA en ec]
  ed : Own wx w.heap.size 112 2 e2 (.slice eA en ec) (edK C q)
  ext : Ext w wx
  keep : ∀ t cs, t ≠ 47 → t ≠ 112 → ∀ g, Blk wr g t cs → Blk wx g t cs
theorem ctB_le (b : List UInt8) (x : NodeT) : (ctB b x).length ≤ b.length := by
  unfold ctB cutB; rw [List.length_take, List.length_drop]; omega
def S12 (rb gb : Nat) (bv : Value) (y : TbH) (W : World) : Prop :=
  W.cell? ⟨rb, 2, none⟩ = some bv ∧ W.cell? ⟨gb, 0, none⟩ = some (.int .i64 y.start) ∧ W.cell? ⟨gb, 1, none⟩ = some (.slice y.sA y.sn y.sc) ∧ W.cell? ⟨gb, 2, none⟩ = some (.slice y.hA y.hn y.hc) ∧ W.cell? ⟨gb, 3, none⟩ = some (.slice y.zA y.zn y.zc) ∧ W.cell? ⟨gb, 4, none⟩ = some (.slice y.kA y.kn y.kc) ∧ W.cell? ⟨gb, 5, none⟩ = some (.slice y.cA y.cn y.cc) ∧ W.cell? ⟨gb, 6, none⟩ = some (.slice y.pA y.pn y.pc)
theorem S12.of {W : World} {rb gb : Nat} {sc : Int} {tv bv : Value} {a : Int} {y : TbH} (h : Blk W rb 75 (frC sc tv bv a)) (hg : Blk W gb 82 #[.int .i64 y.start, .slice y.sA y.sn y.sc, .slice y.hA y.hn y.hc, .slice y.zA y.zn y.zc, .slice y.kA y.kn y.kc, .slice y.cA y.cn y.cc, .slice y.pA y.pn y.pc]) : S12 rb gb bv y W :=
  ⟨h.cell 2, hg.cell 0, hg.cell 1, hg.cell 2, hg.cell 3, hg.cell 4, hg.cell 5, hg.cell 6⟩
def S28 (rb tb : Nat) (tv : Value) (nm : List UInt8) (sc : Int) (eA : Option Addr) (en ec : Nat) (W : World) : Prop :=
  W.cell? ⟨rb, 1, none⟩ = some tv ∧ W.cell? ⟨tb, 0, none⟩ = some (.string ⟨nm.toArray⟩) ∧ W.cell? ⟨tb, 1, none⟩ = some (.int .i64 sc) ∧ W.cell? ⟨tb, 2, none⟩ = some (.slice none 0 0) ∧ W.cell? ⟨tb, 3, none⟩ = some (.slice eA en ec)
theorem S28.of {W : World} {rb tb : Nat} {sc : Int} {tv bv : Value} {a : Int} {nm : List UInt8} {s : Int} {eA : Option Addr} {en ec : Nat} (h : Blk W rb 75 (frC sc tv bv a)) (hg : Blk W tb 47 #[.string ⟨nm.toArray⟩, .int .i64 s, .slice none 0 0, .slice eA en ec]) : S28 rb tb tv nm s eA en ec W :=
  ⟨h.cell 1, hg.cell 0, hg.cell 1, hg.cell 2, hg.cell 3⟩
def lenR : Value → Nat
  | .slice _ m _ => m
  | _ => 0
theorem edK_at (C : List UInt8) (q : Nat) : edK C (q + 1) = edK C q ++ [(sgn8 ((C.drop (16 * q)).take 8), sgn8 (((C.drop (16 * q)).drop 8).take 8))] := by
  have e1 : cutB C (16 * q) (16 * q + 8) = (C.drop (16 * q)).take 8 := by unfold cutB; rw [show 16 * q + 8 - 16 * q = 8 by omega]
  have e2 : cutB C (16 * q + 8) (16 * q + 16) = ((C.drop (16 * q)).drop 8).take 8 := by unfold cutB; rw [show 16 * q + 16 - (16 * q + 8) = 8 by omega, List.drop_drop]
  rw [edK, e1, e2]
theorem conv_bytes0 {A : Option Addr} {n c : Nat} {l : List UInt8} {W : World} (h : At W 1 e8 A n c l) : (convert 28 9 (.slice A n c)).run Try.prog W = .ok (.string ⟨l.toArray⟩) W := by
  rcases Nat.eq_zero_or_pos n with hn | hn
  · have hl := h.len
    obtain rfl : l = [] := List.eq_nil_of_length_eq_zero (by omega)
    subst hn
    rw [run_convert_bytes_string W _ _ _ A 0 c Try.underlying28 Try.underlying5 Try.underlying9]
    cases A <;> simp [Conv.bytesToString] <;> rfl
  · exact conv_bytes h hn
theorem gen_hkT {P : Act → World → Prop} {S : World → Prop} {c : Bool} {K : Act → World → Prop} {a : Act} {w : World} (hK : Shut (∀ a' w', (c = false → S w') → P a' w' → K a' w')) (h : ∀ W, W = w → (c = false → S W) ∧ P a W) : K a w :=
  hK.out _ _ (h w rfl).1 (h w rfl).2
theorem Try.info82 : (Try.prog.info? 82).map (fun i => (i.zero, i.size, i.bytes)) = some (some (.agg #[.int .i64 0, .slice none 0 0, .slice none 0 0, .slice none 0 0, .slice none 0 0, .slice none 0 0, .slice none 0 0]), 7, 152) := by kernel_rfl
theorem Try.info47 : (Try.prog.info? 47).map (fun i => (i.zero, i.size, i.bytes)) = some (some (.agg #[.string ByteArray.empty, .int .i64 0, .slice none 0 0, .slice none 0 0]), 4, 72) := by kernel_rfl
theorem Try.info112 : (Try.prog.info? 112).map (fun i => (i.zero, i.size, i.bytes)) = some (some (.agg #[.int .i64 0, .int .i64 0]), 2, 16) := by kernel_rfl
theorem trksK_bad {b : List UInt8} {l : List NodeT} {k a : Nat} (h : trksK b l k = .bad a) : ∀ m, k ≤ m → trksK b l m = .bad a
  | 0, hm => by
    obtain rfl : k = 0 := by omega
    exact h
  | m + 1, hm => by
    rcases Nat.lt_or_ge m k with h1 | h1
    · obtain rfl : k = m + 1 := by omega
      exact h
    · rw [trksK, trksK_bad h m h1]; rfl
theorem trksK_kind {b : List UInt8} {l : List NodeT} {k : Nat} {r : List TrR} (h : trksK b l k = .ok r) (hk : k + 1 < l.length) (hn : (l.getD (k + 1) dN).kind ≠ kTrck) : trksK b l (k + 1) = .bad (l.getD (k + 1) dN).beg := by
  have e2 : l[k + 1]? = some (l.getD (k + 1) dN) := by rw [List.getD_eq_getElem?_getD, List.getElem?_eq_getElem hk]; rfl
  rw [trksK, h]
  simp only [Rdr.then, e2]
  rw [if_neg hn]
theorem trksK_trk {b : List UInt8} {l : List NodeT} {k : Nat} {r : List TrR} (h : trksK b l k = .ok r) (hk : k + 1 < l.length) (hn : (l.getD (k + 1) dN).kind = kTrck) : trksK b l (k + 1) = (trkR b (l.getD (k + 1) dN)).then fun t => .ok (r ++ [t]) := by
  have e2 : l[k + 1]? = some (l.getD (k + 1) dN) := by rw [List.getD_eq_getElem?_getD, List.getElem?_eq_getElem hk]; rfl
  rw [trksK, h]
  simp only [Rdr.then, e2]
  rw [if_pos hn]
theorem trksK_len {b : List UInt8} {l : List NodeT} : ∀ {k : Nat} {r : List TrR}, trksK b l k = .ok r → k < l.length → r.length = k
  | 0, r, h, _ => by cases h; rfl
  | k + 1, r, h, hk => by
    have e2 : l[k + 1]? = some (l.getD (k + 1) dN) := by rw [List.getD_eq_getElem?_getD, List.getElem?_eq_getElem hk]; rfl
    cases h1 : trksK b l k with
    | bad a => rw [trksK, h1] at h; cases h
    | ok r1 =>
      have ih := trksK_len h1 (by omega)
      rw [trksK, h1] at h
      simp only [Rdr.then, e2] at h
      split at h
      · cases ht : trkR b (l.getD (k + 1) dN) with
        | bad a => rw [ht] at h; cases h
        | ok t => rw [ht] at h; cases h; simp [ih]
      · cases h
theorem topK_bad {b : List UInt8} {l : List NodeT} {k a : Nat} (h : topK b l k = .bad a) : ∀ m, k ≤ m → topK b l m = .bad a
  | 0, hm => by
    obtain rfl : k = 0 := by omega
    exact h
  | m + 1, hm => by
    rcases Nat.lt_or_ge m k with h1 | h1
    · obtain rfl : k = m + 1 := by omega
      exact h
    · rw [topK, topK_bad h m h1]; rfl
theorem topR_bad {b : List UInt8} {l : List NodeT} {k a : Nat} (h : topK b l k = .bad a) (hk : k ≤ l.length) : topR b l = .bad a := by
  unfold topR; rw [topK_bad h _ hk]; rfl
theorem topK_skip {b : List UInt8} {l : List NodeT} {k : Nat} {f : Option (Int × List TrR)} (h : topK b l k = .ok f) (hk : k < l.length) (hn : (l.getD k dN).kind ≠ kFilm) : topK b l (k + 1) = .ok f := by
  have e2 : l[k]? = some (l.getD k dN) := by rw [List.getD_eq_getElem?_getD, List.getElem?_eq_getElem hk]; rfl
  rw [topK, h]
  simp only [Rdr.then, e2]
  rw [if_neg hn]
theorem topK_two {b : List UInt8} {l : List NodeT} {k : Nat} {g : Int × List TrR} (h : topK b l k = .ok (some g)) (hk : k < l.length) (hn : (l.getD k dN).kind = kFilm) : topK b l (k + 1) = .bad (l.getD k dN).beg := by
  have e2 : l[k]? = some (l.getD k dN) := by rw [List.getD_eq_getElem?_getD, List.getElem?_eq_getElem hk]; rfl
  rw [topK, h]
  simp only [Rdr.then, e2]
  rw [if_pos hn]
theorem topK_film {b : List UInt8} {l : List NodeT} {k : Nat} (h : topK b l k = .ok none) (hk : k < l.length) (hn : (l.getD k dN).kind = kFilm) : topK b l (k + 1) = (filR b (l.getD k dN)).then fun g => .ok (some g) := by
  have e2 : l[k]? = some (l.getD k dN) := by rw [List.getD_eq_getElem?_getD, List.getElem?_eq_getElem hk]; rfl
  rw [topK, h]
  simp only [Rdr.then, e2]
  rw [if_pos hn]
theorem filR_kid {b : List UInt8} {n : NodeT} {a : Nat} (h : kidR n.kids 0 kHead b.length = .bad a) : filR b n = .bad a := by
  unfold filR; rw [h]; rfl
theorem filR_len {b : List UInt8} {n x0 : NodeT} (h : kidR n.kids 0 kHead b.length = .ok x0) (hl : (ctB b x0).length ≠ 4) : filR b n = .bad x0.beg := by
  unfold filR; rw [h]; simp only [Rdr.then]; rw [if_pos hl]
theorem filR_more {b : List UInt8} {n x0 : NodeT} (h : kidR n.kids 0 kHead b.length = .ok x0) (hl : (ctB b x0).length = 4) : filR b n = (trksK b n.kids (n.kids.length - 1)).then fun r => .ok ((numB (ctB b x0) : Int), r) := by
  unfold filR; rw [h]; simp only [Rdr.then]; rw [if_neg (by omega)]
def scF : Option (Int × List TrR) → Int
  | none => 0
  | some g => g.1
def rF : Option (Int × List TrR) → List TrR
  | none => []
  | some g => g.2
def trk0 (t : TrR) : TrkT := ⟨t.name, t.scale, [], t.ed⟩
def ReG (w : World) (rb : Nat) (r : Rdr (Int × List TrR)) (e : Ending) (w' : World) : Prop :=
  KpK w w' ∧ Below rb w w' ∧ (∀ sc l, r = .ok (sc, l) → e = .returned (.bool true) ∧ ∃ tv bv hs ts, RdI w' rb sc tv bv 0 hs (l.map trk0) ts (l.map TrR.tab)) ∧
    (∀ a : Nat, r = .bad a → e = .returned (.bool false) ∧ ∃ sc tv bv, Blk w' rb 75 (frC sc tv bv (a : Int)))
theorem ReG.bad {w w' : World} {rb : Nat} {sc : Int} {tv bv : Value} {r : Rdr (Int × List TrR)} {a : Nat} (hr : r = .bad a) (hp : KpK w w') (hb : Below rb w w') (hk : Blk w' rb 75 (frC sc tv bv (a : Int))) : ReG w rb r (.returned (.bool false)) w' :=
  ⟨hp, hb, fun _ _ hx => (by rw [hr] at hx; cases hx), fun a2 ha => by rw [hr] at ha; cases ha; exact ⟨rfl, _, _, _, hk⟩⟩
structure TpI (w wr : World) (rb : Nat) (b : List UInt8) (l : List NodeT) (k : Nat) (f : Option (Int × List TrR)) : Prop where
  top : topK b l k = .ok f
  kp : KpK w wr
  low : Below rb w wr
  rd : ∃ tv bv hs ts, RdI wr rb (scF f) tv bv 0 hs ((rF f).map trk0) ts ((rF f).map TrR.tab)
structure TsI (w wr : World) (rb : Nat) (sc : Int) (b : List UInt8) (l : List NodeT) (k : Nat) (r : List TrR) : Prop where
  top : trksK b l k = .ok r
  kp : KpK w wr
  low : Below rb w wr
  rd : ∃ tv bv hs ts, RdI wr rb sc tv bv 0 hs (r.map trk0) ts (r.map TrR.tab)
theorem kidR_bad {l : List NodeT} {i : Nat} {k : List UInt8} {en : Nat} (hi : i < l.length) (h : (l.getD i dN).kind ≠ k) : kidR l i k en = .bad (l.getD i dN).beg := by
  unfold kidR
  rw [List.getD_eq_getElem?_getD, List.getElem?_eq_getElem hi] at *
  simp only [Option.getD_some] at *
  rw [if_neg h]
theorem kidR_good {l : List NodeT} {i : Nat} {k : List UInt8} {en : Nat} (hi : i < l.length) (h : (l.getD i dN).kind = k) : kidR l i k en = .ok (l.getD i dN) := by
  unfold kidR
  rw [List.getD_eq_getElem?_getD, List.getElem?_eq_getElem hi] at *
  simp only [Option.getD_some] at *
  rw [if_pos h]
end Go.Proofs.Ytkbmgakehlmcnaa
