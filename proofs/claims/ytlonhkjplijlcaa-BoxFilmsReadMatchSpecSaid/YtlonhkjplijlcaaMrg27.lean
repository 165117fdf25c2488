/- Several texts in one: Boxes of a film in plain words, and the memory in which they are made. No condition; Walks: parse and Parse (program). Conditions as stated; Walk: awake. Conditions: none; Films read from bytes, in plain words. Plain but for the words of tracks; Walks: wrong, has (the program's reader of films); nodes laid open. Conditions as stated. -/
import Derived.Test.YtlonhkjplijlcaaMrg16
import Derived.Test.YtlonhkjplijlcaaMrg20
import Derived.Test.YtlonhkjplijlcaaMrg26
import Derived.Test.YtlonhkjplijlcaaMrg24
import Derived.Test.YtlonhkjplijlcaaMrg05
import Derived.Lib.ConvBytes
import Derived.Test.YtlonhkjplijlcaaMrg04
import Derived.Test.YtlonhkjplijlcaaMrg02
import Derived.Test.YtlonhkjplijlcaaMrg08
namespace Go.Proofs.Ytlonhkjplijlcaa
open Go.RowKit
/-- Letters of kinds. -/
abbrev kData : List UInt8 := [100, 97, 116, 97]
abbrev kHead : List UInt8 := [104, 101, 97, 100]
abbrev kName : List UInt8 := [110, 97, 109, 101]
abbrev kRate : List UInt8 := [114, 97, 116, 101]
abbrev kEdit : List UInt8 := [101, 100, 105, 116]
abbrev kTabl : List UInt8 := [116, 97, 98, 108]
/-- Bytes in new blocks. -/
structure BtP (W : World) (B : Nat) (A : Option Addr) (n c : Nat) (l : List UInt8) : Prop where
  at_ : At W 1 e8 A n c l
  in_ : ∀ a, A = some a → B ≤ a.block ∧ a.block < W.heap.size
theorem BtP.ext {W W' : World} {B : Nat} {A : Option Addr} {n c : Nat} {l : List UInt8} (h : BtP W B A n c l) (he : Ext W W') : BtP W' B A n c l := ⟨h.at_.ext he, fun a ha => ⟨(h.in_ a ha).1, Nat.lt_of_lt_of_le (h.in_ a ha).2 he.size⟩⟩
theorem BtP.own {W : World} {B B' : Nat} {v : Value} {l : List UInt8} (h : Own W B 5 1 e8 v l) (hb : B' ≤ B) : ∃ A c, v = .slice A l.length c ∧ BtP W B' A l.length c l := by
  obtain ⟨A, c, hv, ha⟩ := h.at_ len_e8
  exact ⟨A, c, hv, ha, fun a hq => by have := h.lt a.block (by rw [hv, hq]; rfl); omega⟩
theorem own_lit {α : Type} {enc : α → List Value} {sz : Nat} {t : TypeId} (W : World) (cs : Array Value) (xs : List α) (h : xs.flatMap enc = cs.toList) (hsz : ∀ x, (enc x).length = sz) (base : Nat) (hb : base ≤ W.heap.size) (hm : xs.length ≤ maxLen) :
    Own (W.alloc (.cells cs t)) base t sz enc (.slice (some ⟨W.heap.size, 0, none⟩) xs.length xs.length) xs := by
  have h1 := World.ownsRow_lit (base := base) (size := sz) (e := t) W cs xs.length hb hm (by rw [← Array.length_toList, ← h, flat_len hsz])
  unfold Own
  rw [h]
  exact h1
def G1 (B : Nat) (W : World) : Nat → Prop := fun k => B ≤ k ∧ k < W.heap.size
theorem G1.ext {B k : Nat} {W W' : World} (he : Ext W W') (h : G1 B W k) : G1 B W' k := ⟨h.1, Nat.lt_of_lt_of_le h.2 he.size⟩
/-- A row of boxes that the call owns, apart from one block. -/
structure RwO (W : World) (B o : Nat) (v : Value) (hs : List BoxH) (l : List BoxT) : Prop where
  own : Own W B 47 4 eBx v hs
  len : hs.length = l.length
  ne : v.ownBlock ≠ some o
  els : ∃ G : Nat → Prop, (∀ k, G k → B ≤ k ∧ k < W.heap.size ∧ v.ownBlock ≠ some k ∧ k ≠ o) ∧ ∀ (i : Nat) (y : BoxH) (x : BoxT), hs[i]? = some y → l[i]? = some x → BxOk W G y x
theorem RwO.ext {W W' : World} {B o : Nat} {v : Value} {hs : List BoxH} {l : List BoxT} (h : RwO W B o v hs l) (he : Ext W W') : RwO W' B o v hs l := by
  obtain ⟨h1, h2, h0, G, h3, h4⟩ := h
  exact ⟨h1.ext he, h2, h0, G, fun k hk => ⟨(h3 k hk).1, Nat.lt_of_lt_of_le (h3 k hk).2.1 he.size, (h3 k hk).2.2⟩, fun i y x hy hx => (h4 i y x hy hx).good (fun k hk => he.block k (h3 k hk).2.1) (fun _ hk => hk)⟩
theorem RwO.set_ {W : World} {B o i : Nat} {u v : Value} {hs : List BoxH} {l : List BoxT} (h : RwO W B o v hs l) : RwO (W.setCell ⟨o, i, none⟩ u) B o v hs l := by
  obtain ⟨h1, h2, h0, G, h3, h4⟩ := h
  have hT : Tw W (W.setCell ⟨o, i, none⟩ u) o none := Tw.set_ _ _ _ _ _
  exact ⟨h1.tw hT h0 (fun g _ e => by cases e), h2, h0, G, fun k hk => ⟨(h3 k hk).1, Nat.lt_of_lt_of_le (h3 k hk).2.1 hT.size, (h3 k hk).2.2⟩, fun i y x hy hx => (h4 i y x hy hx).good (fun k hk => hT.block k (h3 k hk).2.1 (h3 k hk).2.2.2 (by simp)) (fun _ hk => hk)⟩
/-- One more box, whose parts are new. -/
theorem RwO.snoc {W Wa W' : World} {B o : Nat} {v v' : Value} {hs : List BoxH} {l : List BoxT} {y : BoxH} {x : BoxT} (h : RwO W B o v hs l) (hbw : B ≤ W.heap.size) (ho : o < W.heap.size) (he : Ext W Wa) (hy : BxOk Wa (G1 W.heap.size Wa) y x)
    (hw : Own W' B 47 4 eBx v' (hs ++ [y])) (hg : Wa.grownBy W' v.ownBlock) (hr : v'.ownBlock = v.ownBlock ∨ v'.ownBlock = some Wa.heap.size) : RwO W' B o v' (hs ++ [y]) (l ++ [x]) := by
  obtain ⟨h1, h2, h0, G, h3, h4⟩ := h
  have hsz := he.size
  have hlt := h1.lt
  have hb : ∀ k, k < Wa.heap.size → v.ownBlock ≠ some k → W'.heap[k]? = Wa.heap[k]? := fun k hk hn => hg.block k hk (fun e => hn e.symm)
  refine ⟨hw, by simp [h2], ?_, fun k => G k ∨ (G1 W.heap.size Wa k), fun k hk => ?_, fun i y' x' hy' hx' => ?_⟩
  · rcases hr with hr | hr
    · rw [hr]; exact h0
    · rw [hr]; intro e; injection e with e; omega
  · have hk2 : B ≤ k ∧ k < Wa.heap.size ∧ v.ownBlock ≠ some k ∧ k ≠ o := by
      rcases hk with hk | hk
      · have := h3 k hk; exact ⟨this.1, by omega, this.2.2⟩
      · exact ⟨Nat.le_trans hbw hk.1, hk.2, fun e => by have := (hlt k e).2; have := hk.1; omega, by have := hk.1; omega⟩
    refine ⟨hk2.1, by have := hg.size; omega, ?_, hk2.2.2.2⟩
    rcases hr with hr | hr
    · rw [hr]; exact hk2.2.2.1
    · rw [hr]; intro e; injection e with e; omega
  · rcases get_snoc hy' with hy1 | ⟨hy1, rfl⟩
    · have hi := get_lt hy1
      have hx1 : l[i]? = some x' := by
        rw [List.getElem?_append_left (by omega)] at hx'
        exact hx'
      exact (h4 i y' x' hy1 hx1).good (fun k hk => (hb k (by have := (h3 k hk).2.1; omega) (h3 k hk).2.2.1).trans (he.block k (h3 k hk).2.1)) (fun _ hk => .inl hk)
    · have hx1 : x' = x := by
        rcases get_snoc hx' with hx1 | ⟨_, hx1⟩
        · have := get_lt hx1; omega
        · exact hx1
      subst hx1
      exact hy.good (fun k hk => hb k hk.2 (fun e => by have := (hlt k e).2; have := hk.1; omega)) (fun _ hk => .inr hk)
theorem RwO.at_ {W : World} {B o : Nat} {A : Option Addr} {n c : Nat} {hs : List BoxH} {l : List BoxT} (h : RwO W B o (.slice A n c) hs l) : BxsAt W (G1 B W) A n c l := by
  obtain ⟨h1, h2, _, G, h3, h4⟩ := h
  have hk : ∀ (i : Nat) (y : BoxH) (x : BoxT), hs[i]? = some y → l[i]? = some x → BxOk W (G1 B W) y x := fun i y x hy hx => (h4 i y x hy hx).good (fun _ _ => rfl) (fun k hk => ⟨(h3 k hk).1, (h3 k hk).2.1⟩)
  exact .mk hs l (h1.atS len_eBx) (fun a ha => by subst ha; exact h1.lt a.block rfl) h2 (fun i y x hy hx => (hk i y x hy hx).1) (fun i y x hy hx => (hk i y x hy hx).2)
/-- The first row, of boxes that are made at once. -/
theorem RwO.lit {W : World} {B o : Nat} (cs : Array Value) (hs : List BoxH) (l : List BoxT) (h : hs.flatMap eBx = cs.toList) (hb : B ≤ W.heap.size) (hl : hs.length = l.length) (hm : hs.length ≤ 100) (ho : ∀ k, G1 B W k → k ≠ o) (ho2 : W.heap.size ≠ o) (hok : ∀ (i : Nat) (y : BoxH) (x : BoxT), hs[i]? = some y → l[i]? = some x → BxOk W (G1 B W) y x) :
    RwO (W.alloc (.cells cs 47)) B o (.slice (some ⟨W.heap.size, 0, none⟩) hs.length hs.length) hs l := by
  refine ⟨own_lit W cs hs h len_eBx B hb (by unfold maxLen; omega), hl, fun e => ?_, G1 B W, fun k hk => ⟨hk.1, ?_, fun e => ?_, ho k hk⟩, fun i y x hy hx => (hok i y x hy hx).good (fun k hk => (Ext.alloc _ _).block k hk.2) (fun _ hk => hk)⟩
  · injection e with e; exact ho2 e
  · rw [World.size_alloc]; have := hk.2; omega
  · have e2 : some W.heap.size = some k := e
    injection e2 with e2
    have := hk.2
    omega
end Go.Proofs.Ytlonhkjplijlcaa
namespace Go.Proofs.Ytlonhkjplijlcaa
open Go.RowKit
theorem nodes_any (m : Nat) : NodStmt m := Nat.strongRecOn (motive := NodStmt) m fun m ih => nodes_step m ih
/-- How bytes are read as boxes. -/
def parseF (b : List UInt8) : ParR := if 1000000 < b.length then .err 0 2 else parF b 0 b.length 0 0
/-- What parse gives. -/
def ParGives (w : World) (b : List UInt8) (r : ParR) (e : Ending) (w' : World) : Prop :=
  Ext w w' ∧ (∀ a f, r = .err a f → e = .returned (.tuple #[.slice none 0 0, .int .i64 (a : Int), .int .i64 f])) ∧
  (∀ l cc, r = .ok l cc → ∃ N c2, e = .returned (.tuple #[.slice N l.length c2, .int .i64 0, .int .i64 0]) ∧ NdsAt w' b (fun k => w.heap.size ≤ k ∧ k < w'.heap.size) N l.length c2 l)
set_option maxRecDepth 100000 in
set_option maxHeartbeats 2000000 in
theorem parse_any {A : Option Addr} {n c : Nat} {b : List UInt8} {w : World} (h : At w 1 e8 A n c b) :
    Calls Try.prog 28 #[.slice A n c] w (ParGives w b (parseF b)) := by
  have hl := h.len
  have hbd := h.bound
  have hA := fun hn0 => h.blk_lt len_e8 (by omega) hn0
  by_cases hn : 1000000 < n
  · have HV : Hid (parseF b = .err 0 2) := hide (by unfold parseF; rw [if_pos (by omega)])
    clear hl h hA
    go_enter Try.func28, Try.ntmps28
    go_wp2_with fail
    refine bodyPost_ret (v := .tuple #[.slice none 0 0, .int .i64 0, .int .i64 2]) (by simp [results, Try.results28, go_sem]) rfl ⟨Ext.refl _, fun a f e => by rw [HV.out] at e; cases e; rfl, fun l cc e => by rw [HV.out] at e; cases e⟩
  have HV : Hid (parseF b = parF b 0 n 0 0) := hide (by unfold parseF; rw [if_neg (by omega), hl])
  have hk := Blk.new w 112 #[.slice A n c, .int .i64 0]
  have HN := nodes_any n (gp := w.heap.size) (f := 0) (t := n) (depth := 0) (cnt := 0) (A := A) (n := n) (c := c) (b := b) (w := w.alloc (.cells #[.slice A n c, .int .i64 0] 112)) (by omega) hk (h.ext (Ext.alloc _ _)) (fun hn0 a ha => by have := hA hn0 a ha; omega) (by omega) (Nat.le_refl _) (by omega) (by omega) (by omega)
  rw [show ((0 : Nat) : Int) = 0 from rfl] at HN
  have HNK := hide HN
  clear HN hk hl h
  go_enter Try.func28, Try.ntmps28
  go_wp2_with fail
  with_reducible refine HNK.out.mono ?_
  intro e w1 hg
  obtain ⟨t1, _, herr, hok⟩ := hg
  have E1 : Ext w w1 := ⟨t1.os, t1.tape, t1.output, by have := t1.size; rw [World.size_alloc] at this; omega, fun k hk => (t1.block k (by rw [World.size_alloc]; omega) (by omega) (by simp)).trans ((Ext.alloc w (.cells #[.slice A n c, .int .i64 0] 112)).block k hk)⟩
  have hs1 : w.heap.size + 1 ≤ w1.heap.size := by have := t1.size; rw [World.size_alloc] at this; omega
  rw [← HV.out] at herr hok
  cases hq : parseF b with
  | err a f =>
    have he := herr a f hq
    subst he
    have HE := hide E1
    have HQ := hide hq
    clear herr hok hq E1 t1
    go_wp2_with fail
    refine bodyPost_ret (v := .tuple #[.slice none 0 0, .int .i64 (a : Int), .int .i64 f]) (by simp [results, Try.results28, go_sem]) rfl ⟨HE.out, (fun a' f' e => by rw [HQ.out] at e; cases e; rfl), fun l cc e => by rw [HQ.out] at e; cases e⟩
  | ok l cc =>
    obtain ⟨N, c2, he, hnd⟩ := hok l cc hq
    subst he
    have HE := hide E1
    have HQ := hide hq
    have HND := hide (hnd.good (H := fun k => w.heap.size ≤ k ∧ k < w1.heap.size) (fun _ _ => rfl) (fun k hk => ⟨by have := hk.1; rw [World.size_alloc] at this; omega, hk.2⟩))
    clear herr hok hq E1 t1 hnd
    go_wp2_with fail
    refine bodyPost_ret (v := .tuple #[.slice N l.length c2, .int .i64 0, .int .i64 0]) (by simp [results, Try.results28, go_sem]) rfl ⟨HE.out, (fun a' f' e => by rw [HQ.out] at e; cases e), fun l cc e => by rw [HQ.out] at e; cases e; exact ⟨N, c2, rfl, HND.out⟩⟩
/-- What Parse gives. -/
def PrsGives (w : World) (b : List UInt8) (r : ParR) (e : Ending) (w' : World) : Prop :=
  Ext w w' ∧ (∀ a f, r = .err a f → e = .returned (.tuple #[.slice none 0 0, .int .i64 (a : Int), .int .i64 f])) ∧
  (∀ l cc, r = .ok l cc → ∃ N c2, e = .returned (.tuple #[.slice N l.length c2, .int .i64 0, .int .i64 0]) ∧ BxsAt w' (fun k => w.heap.size ≤ k ∧ k < w'.heap.size) N l.length c2 (boxesOf b l))
theorem parseF_err {b : List UInt8} {a : Nat} {f : Int} (h : parseF b = .err a f) : (f != 0) = true := by
  unfold parseF at h
  split at h
  · cases h; rfl
  · exact parF_err h
set_option maxRecDepth 100000 in
set_option maxHeartbeats 4000000 in
theorem keyParse_any {A : Option Addr} {n c : Nat} {b : List UInt8} {w : World} (h : At w 1 e8 A n c b) :
    Calls Try.prog 27 #[.slice A n c] w (PrsGives w b (parseF b)) := by
  have HP := hide (parse_any h)
  clear h
  go_enter Try.func27, Try.ntmps27
  go_wp2_with fail
  with_reducible refine HP.out.mono ?_
  intro e w1 hg
  obtain ⟨e1, herr, hok⟩ := hg
  have E1 := hide e1
  cases hq : parseF b with
  | err a f =>
    have he := herr a f hq
    have hf := parseF_err hq
    have HQ := hide hq
    subst he
    clear herr hok hq e1
    go_wp2_with fail
    refine bodyPost_ret (v := .tuple #[.slice none 0 0, .int .i64 (a : Int), .int .i64 f]) (by simp [results, Try.results27, go_sem]) rfl ⟨E1.out, (fun a' f' e => by rw [HQ.out] at e; cases e; rfl), fun l cc e => by rw [HQ.out] at e; cases e⟩
  | ok l cc =>
    obtain ⟨N, c2, he, hnd⟩ := hok l cc hq
    subst he
    have HQ := hide hq
    obtain ⟨hs, hat, hgN, hl3, h31⟩ : ∃ hs : List NodeH, At w1 8 eNd N l.length c2 hs ∧ InG (fun q => w.heap.size ≤ q ∧ q < w1.heap.size) N ∧ hs.length = l.length ∧ (∀ (i : Nat) (y : NodeH) (x : NodeT), hs[i]? = some y → l[i]? = some x → NdHd w1 b (fun q => w.heap.size ≤ q ∧ q < w1.heap.size) y x) := by
      cases hnd with
      | mk hs l3 a1 a2 a3 a4 a5 => exact ⟨hs, a1, a2, a3, a4⟩
    have HAT := hide hat
    have HL3 := hide hl3
    have H31 := hide h31
    have hsz1 := e1.size
    generalize hkn : l.length = kn at *
    have HKN := hide hkn
    have hkb := hat.bound
    have hkm : kn ≤ 1000000 := by
      unfold parseF at hq
      split at hq
      · cases hq
      · have := (parF_count hq (by omega)).2; omega
    clear herr hok hq e1 hnd hat hgN hl3 h31 hkn
    obtain ⟨i2_, hi2, hu0, hu1, hu2⟩ := info_parts Try.info47
    go_wp2_with fail
    go_loopw [8, 23] (fun rv rj wr => ∃ j : Nat, j ≤ kn ∧ rj = .int .i64 (j : Int) ∧ Hid (Own wr w1.heap.size 47 4 eBx rv ((hs.take j).map NodeH.box)) ∧ Hid (Ext w1 wr)) (fun _ rj _ => kn - (intOf rj).toNat)
    case atStart => exact ⟨0, by omega, rfl, hide (Own.nil _ _ _ _ _), hide (Ext.refl _)⟩
    case round =>
      obtain ⟨j, hj, rfl, HO, HW⟩ := hrel
      have hlh : hs.length = kn := HL3.out
      by_cases hjl : j < kn
      · obtain ⟨bN, oN, rfl, _⟩ := HAT.out.addr (by omega)
        have hatj := HAT.out.ext HW.out
        have hjh : j < hs.length := by omega
        obtain ⟨y, hy⟩ : ∃ y : NodeH, hs.getD j default = y := ⟨_, rfl⟩
        have htk : (hs.take (j + 1)).map NodeH.box = (hs.take j).map NodeH.box ++ [y.box] := by
          rw [List.take_succ_eq_append_getElem hjh, List.map_append, ← hy]; simp [List.getD, hjh]
        have hlt3 : ((hs.take j).map NodeH.box).length = j := by simp; omega
        obtain ⟨⟨yk, yf, yd, yn, yc, ya, yan, yac⟩, yb, ydt, ye, na, nn, nc⟩ := y
        have e0 : wr.cell? ⟨bN, oN + j * 8, none⟩ = some (.string ⟨yk.toArray⟩) := hatj.cellK hjl default 0 _ (by rw [hy]; rfl)
        have e1 : wr.cell? ⟨bN, oN + j * 8 + 1, none⟩ = some (.int .i64 yf) := hatj.cellK hjl default 1 _ (by rw [hy]; rfl)
        have e2 : wr.cell? ⟨bN, oN + j * 8 + 2, none⟩ = some (.slice yd yn yc) := hatj.cellK hjl default 2 _ (by rw [hy]; rfl)
        have e3 : wr.cell? ⟨bN, oN + j * 8 + 3, none⟩ = some (.slice ya yan yac) := hatj.cellK hjl default 3 _ (by rw [hy]; rfl)
        have e4 : wr.cell? ⟨bN, oN + j * 8 + 4, none⟩ = some (.int .i64 (yb : Int)) := hatj.cellK hjl default 4 _ (by rw [hy]; rfl)
        have e5 : wr.cell? ⟨bN, oN + j * 8 + 5, none⟩ = some (.int .i64 (ydt : Int)) := hatj.cellK hjl default 5 _ (by rw [hy]; rfl)
        have e6 : wr.cell? ⟨bN, oN + j * 8 + 6, none⟩ = some (.int .i64 (ye : Int)) := hatj.cellK hjl default 6 _ (by rw [hy]; rfl)
        have e7 : wr.cell? ⟨bN, oN + j * 8 + 7, none⟩ = some (.slice na nn nc) := hatj.cellK hjl default 7 _ (by rw [hy]; rfl)
        have HTK := hide htk
        have M1 : Hid (((hs.take j).map NodeH.box).length + 1 ≤ maxLen) := hide (by rw [hlt3]; unfold maxLen; omega)
        have M2 : Hid ((((hs.take j).map NodeH.box).length + 1) * 72 ≤ 140737488355328) := hide (by rw [hlt3]; omega)
        have i2 : (j : Int) < (kn : Int) := by omega
        have hws := HW.out.size
        clear hy htk hlt3 hatj hlh
        go_upto_region 8 with (fail)
        refine gen_wpC fun w6 h6 => ?_
        have K6 : Hid (Blk w6 wr.heap.size 109 #[.string ⟨yk.toArray⟩, .int .i64 yf, .slice yd yn yc, .slice ya yan yac, .int .i64 (yb : Int), .int .i64 (ydt : Int), .int .i64 (ye : Int), .slice na nn nc]) := hide (by rw [h6]; exact Blk.new _ _ _)
        have E6 : Hid (Ext wr w6) := hide (by rw [h6]; exact Ext.alloc _ _)
        have hk6 := K6.out.lt
        clear h6 e0 e1 e2 e3 e4 e5 e6 e7
        have k0 : w6.cell? ⟨wr.heap.size, 0, none⟩ = some (.string ⟨yk.toArray⟩) := K6.out.cell 0
        have k1 : w6.cell? ⟨wr.heap.size, 1, none⟩ = some (.int .i64 yf) := K6.out.cell 1
        have k2 : w6.cell? ⟨wr.heap.size, 2, none⟩ = some (.slice yd yn yc) := K6.out.cell 2
        have k3 : w6.cell? ⟨wr.heap.size, 3, none⟩ = some (.slice ya yan yac) := K6.out.cell 3
        have O6 := hide (HO.out.ext E6.out)
        have AT6 : Hid (At (w6.alloc (.cells #[.string ⟨yk.toArray⟩, .int .i64 yf, .slice yd yn yc, .slice ya yan yac] 47)) 4 eBx (some ⟨w6.heap.size, 0, none⟩) 1 1 [(⟨yk, yf, yd, yn, yc, ya, yan, yac⟩ : BoxH)]) := hide (At.newE (enc := eBx) w6 _ _ _ rfl)
        have M3 : Hid (w1.heap.size ≤ (w6.alloc (.cells #[.string ⟨yk.toArray⟩, .int .i64 yf, .slice yd yn yc, .slice ya yan yac] 47)).heap.size) := hide (by rw [World.size_alloc]; omega)
        go_wp2_with (at_builtin; refine wpList_append_at _ rfl (.tmp 27) (.tmp 30) 45 rfl w1.heap.size 47 i2_ _ 72 Try.underlying45 hi2 hu0 hu1 hu2 rfl (by omega) len_eBx one_eBx _ _ (by rfl) (O6.out.ext (Ext.alloc _ _)) (some ⟨w6.heap.size, 0, none⟩) 1 1 [(⟨yk, yf, yd, yn, yc, ya, yan, yac⟩ : BoxH)] (by rfl) AT6.out M1.out M2.out M3.out ?_; intro v7 w7 o7 g7 _ _; have O7 := hide o7; have E7 : Hid (Ext w1 w7) := hide (Own.below (w0 := w1) (O6.out.ext (Ext.alloc _ _)) (Ext.trans (Ext.trans HW.out E6.out) (Ext.alloc _ _)) g7 (Nat.le_refl _)); clear o7 g7)
        exact ⟨⟨j + 1, by omega, by go_num, by rw [HTK.out]; exact O7, E7⟩, by simp [intOf]; omega⟩
      · obtain rfl : kn = j := by omega
        obtain ⟨kA, kc, hvk, hatk⟩ := HO.out.at_ len_eBx
        have htl : (hs.take kn).map NodeH.box = hs.map NodeH.box := by rw [← hlh, List.take_length]
        rw [htl] at hatk hvk
        rw [show (hs.map NodeH.box).length = kn by rw [List.length_map, hlh]] at hatk hvk
        subst hvk
        have hws := HW.out.size
        have hlk := HO.out.lt
        have HBX : Hid (BxsAt wr (fun q => w.heap.size ≤ q ∧ q < wr.heap.size) kA kn kc (boxesOf b l)) := hide (by
          have hel : ∀ (i : Nat) (y : BoxH) (x : BoxT), (hs.map NodeH.box)[i]? = some y → (boxesOf b l)[i]? = some x → BxOk wr (fun q => w.heap.size ≤ q ∧ q < wr.heap.size) y x := by
            intro i y x hy hx
            rw [boxesOf_map] at hx
            rw [List.getElem?_map] at hy hx
            cases h5 : hs[i]? with
            | none => rw [h5] at hy; cases hy
            | some z =>
              cases h6 : l[i]? with
              | none => rw [h6] at hx; cases hx
              | some x0 =>
                rw [h5] at hy
                rw [h6] at hx
                cases hy
                cases hx
                exact (H31.out i z x0 h5 h6).1.good (fun q hq => HW.out.block q hq.2) (fun q hq => ⟨hq.1, by omega⟩)
          exact .mk (hs.map NodeH.box) (boxesOf b l) hatk (fun a ha => by subst ha; have := hlk a.block rfl; exact ⟨by omega, this.2⟩) (by rw [boxesOf_map, List.length_map, List.length_map, HL3.out, HKN.out]) (fun i y x hy hx => (hel i y x hy hx).1) (fun i y x hy hx => (hel i y x hy hx).2))
        have i2 : ¬ (kn : Int) < (kn : Int) := by omega
        clear hatk htl hlk hlh
        go_wp2_with fail
        refine bodyPost_ret (v := .tuple #[.slice kA kn kc, .int .i64 0, .int .i64 0]) (by simp [results, Try.results27, go_sem]) rfl ⟨Ext.trans E1.out HW.out, (fun a' f' e => by rw [HQ.out] at e; cases e), fun l' cc' e => by rw [HQ.out] at e; cases e; exact ⟨kA, kc, by first | rfl | rw [HKN.out], by first | exact HBX.out | (rw [HKN.out]; exact HBX.out)⟩⟩
end Go.Proofs.Ytlonhkjplijlcaa
namespace Go.Proofs.Ytlonhkjplijlcaa
open Go.RowKit
/-- A fresh block of bytes reads as its list. -/
theorem At.newB (w : World) (l : List UInt8) (cs : Array Value) (t : TypeId) (hc : cs.toList = l.map B8) (hl : l.length ≤ maxLen) : At (w.alloc (.cells cs t)) 1 e8 (some ⟨w.heap.size, 0, none⟩) l.length l.length l :=
  ⟨rfl, Nat.le_refl _, hl, fun h => (by cases h), fun k z hz => ⟨_, _, rfl, fun j v hv => by
    match j, hv with
    | 0, hv =>
      simp at hv; subst hv
      have := (Blk.new w t cs).cell k
      rw [show 0 + k * 1 + 0 = k by omega, this]
      have h2 : cs.toList[k]? = some (B8 z) := by rw [hc, List.getElem?_map, hz]; rfl
      simpa using h2
    | j + 1, hv => simp at hv⟩⟩
theorem parse_awake : parseF [0, 0, 0, 9, 97, 98, 99, 100, 7] = .ok [.mk [97, 98, 99, 100] 0 0 8 9 []] 1 := by kernel_rfl
set_option maxRecDepth 100000 in
set_option maxHeartbeats 1000000 in
theorem awake_any (w : World) : Calls Try.prog 9 #[] w fun e w' => e = .returned (.bool true) ∧ Ext w w' := by
  have hat : At (w.alloc (.cells #[.int .u8 0, .int .u8 0, .int .u8 0, .int .u8 9, .int .u8 97, .int .u8 98, .int .u8 99, .int .u8 100, .int .u8 7] 5)) 1 e8 (some ⟨w.heap.size, 0, none⟩) 9 9 [0, 0, 0, 9, 97, 98, 99, 100, 7] := At.newB w [0, 0, 0, 9, 97, 98, 99, 100, 7] #[.int .u8 0, .int .u8 0, .int .u8 0, .int .u8 9, .int .u8 97, .int .u8 98, .int .u8 99, .int .u8 100, .int .u8 7] 5 rfl (by unfold maxLen; simp)
  have HP := hide (keyParse_any hat)
  clear hat
  go_enter Try.func9, Try.ntmps9
  go_wp2_with fail
  with_reducible refine HP.out.mono ?_
  intro e w1 hg
  obtain ⟨e1, _, hok⟩ := hg
  obtain ⟨N, c2, he, hbx⟩ := hok _ _ parse_awake
  have E1 := hide e1
  have hk : (boxesOf [0, 0, 0, 9, 97, 98, 99, 100, 7] [.mk [97, 98, 99, 100] 0 0 8 9 []]) = [.mk [97, 98, 99, 100] 0 [7] []] := rfl
  rw [hk] at hbx
  have he : e = .returned (.tuple #[.slice N 1 c2, .int .i64 0, .int .i64 0]) := he
  subst he
  obtain ⟨hs, hat, hl, h1⟩ : ∃ hs : List BoxH, At w1 4 eBx N 1 c2 hs ∧ hs.length = 1 ∧ (∀ (i : Nat) (y : BoxH) (x : BoxT), hs[i]? = some y → [BoxT.mk [97, 98, 99, 100] 0 [7] []][i]? = some x → BxHd w1 (fun k => (w.alloc (.cells #[.int .u8 0, .int .u8 0, .int .u8 0, .int .u8 9, .int .u8 97, .int .u8 98, .int .u8 99, .int .u8 100, .int .u8 7] 5)).heap.size ≤ k ∧ k < w1.heap.size) y x) := by
    cases hbx with
    | mk hs l3 a1 a2 a3 a4 a5 => exact ⟨hs, a1, a3, a4⟩
  match hs, hl with
  | [y], _ =>
    have hy := (h1 0 y _ rfl rfl).1
    obtain ⟨bN, oN, rfl, _⟩ := hat.addr (by omega)
    have c0 := hat.cellK (k := 0) (by omega) y 0 _ rfl
    rw [Nat.zero_mul, Nat.add_zero, show [y].getD 0 y = y from rfl, hy] at c0
    have c0 : w1.cell? ⟨bN, oN, none⟩ = some (.string ⟨#[97, 98, 99, 100]⟩) := c0
    clear e1 hok hbx hk hat h1 hy HP
    go_wp2_with fail
    go_ret
    exact ⟨rfl, Ext.trans (Ext.alloc _ _) E1.out⟩
end Go.Proofs.Ytlonhkjplijlcaa
namespace Go.Proofs.Ytlonhkjplijlcaa
/-- What is read, or where something is wrong. -/
inductive Rdr (α : Type) where
  | bad (at_ : Nat)
  | ok (x : α)
def Rdr.then {α β : Type} (r : Rdr α) (f : α → Rdr β) : Rdr β := match r with
  | .bad a => .bad a
  | .ok x => f x
/-- The bytes of a node. -/
def ctB (b : List UInt8) (x : NodeT) : List UInt8 := cutB b x.dat x.en
/-- Number i of some nodes, if it is of a kind. -/
def kidR (l : List NodeT) (i : Nat) (k : List UInt8) (en : Nat) : Rdr NodeT := match l[i]? with
  | none => .bad en
  | some x => if x.kind = k then .ok x else .bad x.beg
/-- A track as it is read. -/
structure TrR where
  name : List UInt8
  scale : Int
  ed : List (Int × Int)
  tab : Tab
instance : Inhabited TrR := ⟨⟨[], 0, [], noTab⟩⟩
/-- A number of eight bytes, with its sign. -/
def sgn8 (l : List UInt8) : Int := IntKind.i64.wrap (numB l : Int)
/-- The first so many edits in bytes. -/
def edK (c : List UInt8) : Nat → List (Int × Int)
  | 0 => []
  | k + 1 => edK c k ++ [(sgn8 (cutB c (16 * k) (16 * k + 8)), sgn8 (cutB c (16 * k + 8) (16 * k + 16)))]
def edR (c : List UInt8) : List (Int × Int) := edK c (c.length / 16)
/-- A track. -/
def trkR (b : List UInt8) (n : NodeT) : Rdr TrR :=
  (kidR n.kids 0 kName n.en).then fun x0 =>
  (kidR n.kids 1 kRate n.en).then fun x1 => if (ctB b x1).length ≠ 4 then .bad x1.beg else
  (kidR n.kids 2 kEdit n.en).then fun x2 => if (ctB b x2).length % 16 ≠ 0 then .bad x2.beg else
  (kidR n.kids 3 kTabl n.en).then fun x3 => if rtF (ctB b x3) ≠ 0 then .bad x3.beg else
  match n.kids[4]? with
  | some x4 => .bad x4.beg
  | none => .ok ⟨ctB b x0, (numB (ctB b x1) : Int), edR (ctB b x2), rtV (ctB b x3)⟩
/-- The first so many tracks of a film: kids from the second one on. -/
def trksK (b : List UInt8) (l : List NodeT) : Nat → Rdr (List TrR)
  | 0 => .ok []
  | k + 1 => (trksK b l k).then fun r => match l[k + 1]? with
    | none => .ok r
    | some x => if x.kind = kTrck then (trkR b x).then fun t => .ok (r ++ [t]) else .bad x.beg
/-- A film. -/
def filR (b : List UInt8) (n : NodeT) : Rdr (Int × List TrR) :=
  (kidR n.kids 0 kHead b.length).then fun x0 => if (ctB b x0).length ≠ 4 then .bad x0.beg else
  (trksK b n.kids (n.kids.length - 1)).then fun r => .ok ((numB (ctB b x0) : Int), r)
/-- The first so many outermost boxes. -/
def topK (b : List UInt8) (l : List NodeT) : Nat → Rdr (Option (Int × List TrR))
  | 0 => .ok none
  | k + 1 => (topK b l k).then fun f => match l[k]? with
    | none => .ok f
    | some x => if x.kind = kFilm then (match f with
      | some _ => .bad x.beg
      | none => (filR b x).then fun g => .ok (some g)) else .ok f
def topR (b : List UInt8) (l : List NodeT) : Rdr (Int × List TrR) := (topK b l l.length).then fun f => match f with
  | none => .bad b.length
  | some g => .ok g
/-- Tracks with their samples. -/
def trkOf (t : TrR) : TrkT := ⟨t.name, t.scale, exS t.tab, t.ed⟩
/-- Whether some bytes are all in one outermost box data. -/
def inD (l : List NodeT) (s : Int × Int) : Bool := l.any fun x => decide (x.kind = kData ∧ (x.dat : Int) ≤ s.1 ∧ s.1 + s.2 ≤ (x.en : Int))
def okSp (l : List NodeT) (s : Int × Int) : Bool := inD l s || decide (s.2 = 0)
/-- The bytes at spots. -/
def spB (b : List UInt8) (s : List (Int × Int)) : List UInt8 := s.flatMap fun x => pcB b x.1.toNat (x.1 + x.2).toNat
/-- What ReadFilm gives: a film, bytes, a place and a fault. -/
structure RfR where
  sc : Int
  trk : List TrkT
  dat : List (List UInt8)
  at_ : Int
  f : Int
def rfErr (a f : Int) : RfR := ⟨0, [], [], a, f⟩
def rfmF (b : List UInt8) : RfR := match parseF b with
  | .err a f => rfErr a f
  | .ok l _ => match topR b l with
    | .bad a => rfErr a 10
    | .ok (sc, r) =>
      if firstF (fun i => expF (r.getD i default).tab) r.length ≠ 0 then rfErr 0 (firstF (fun i => expF (r.getD i default).tab) r.length)
      else if filF sc (r.map trkOf) ≠ 0 then rfErr 0 (filF sc (r.map trkOf))
      else if (r.all fun t => (spS t.tab).all (okSp l)) = true then ⟨sc, r.map trkOf, r.map fun t => spB b (spS t.tab), 0, 0⟩ else rfErr 0 1
end Go.Proofs.Ytlonhkjplijlcaa
namespace Go.Proofs.Ytlonhkjplijlcaa
open Go.RowKit
/-- The cells of a reader of films. -/
abbrev frC (sc : Int) (tv bv : Value) (a : Int) : Array Value := #[.int .i64 sc, tv, bv, .int .i64 a]
/-- What wrong gives. -/
def WrG (w : World) (rb : Nat) (sc : Int) (tv bv : Value) (a : Int) (e : Ending) (w' : World) : Prop := e = .returned (.bool false) ∧ Blk w' rb 66 (frC sc tv bv a) ∧ Tw w w' rb none
set_option maxRecDepth 100000 in
set_option maxHeartbeats 4000000 in
theorem wrong_any {w : World} {rb : Nat} {sc : Int} {tv bv : Value} {a0 a : Int} (hB : Blk w rb 66 (frC sc tv bv a0)) :
    Calls Try.prog 54 #[.pointer (some ⟨rb, 0, none⟩), .int .i64 a] w (WrG w rb sc tv bv a) := by
  have HB := hide hB
  have x3 : w.cell? ⟨rb, 3, none⟩ = some (.int .i64 a0) := hB.cell 3
  have f3 := hB.frozen 3
  clear hB
  go_enter Try.func54, Try.ntmps54
  go_wp2_with fail
  go_ret
  exact ⟨rfl, HB.out.set_ 3 (.int .i64 a), Tw.set_ _ _ _ _ _⟩
abbrev dN : NodeT := .mk [] 0 0 0 0 []
/-- A node's cells are those of a node; its data lies in memory, and its kids are nodes below a place. -/
structure NdC (w : World) (b : List UInt8) (B : Nat) (y : NodeH) (x : NodeT) : Prop where
  kind : y.box.kind = x.kind
  beg : y.beg = x.beg
  dat : y.dat = x.dat
  en : y.en = x.en
  data : At w 1 e8 y.box.dA y.box.dn y.box.dc (boxOf b x).data
  low : InG (fun k => k < B) y.box.dA
  kids : NdsAt w b (fun k => k < B) y.nA y.nn y.nc x.kids
/-- Nodes in memory, laid open. -/
structure NdO (w : World) (b : List UInt8) (B : Nat) (A : Option Addr) (n c : Nat) (hs : List NodeH) (l : List NodeT) : Prop where
  at_ : At w 8 eNd A n c hs
  low : InG (fun k => k < B) A
  len : l.length = n
  hd : ∀ i, i < n → NdC w b B (hs.getD i default) (l.getD i dN)
theorem kind_boxOf (b : List UInt8) (x : NodeT) : (boxOf b x).kind = x.kind := by cases x; rfl
theorem data_boxOf {b : List UInt8} {x : NodeT} (h : hasKidsB x.kind = false) : (boxOf b x).data = ctB b x := by
  cases x with
  | mk k f g d e l =>
    have h2 : hasKidsB k = false := h
    show (if hasKidsB k = true then [] else cutB b d e) = _
    rw [h2]; rfl
theorem NdC.below {w w' : World} {b : List UInt8} {B : Nat} {y : NodeH} {x : NodeT} (h : NdC w b B y x) (hB : Below B w w') : NdC w' b B y x :=
  ⟨h.kind, h.beg, h.dat, h.en, h.data.good h.low hB.block, h.low, h.kids.good hB.block (fun _ hk => hk)⟩
theorem NdO.below {w w' : World} {b : List UInt8} {B : Nat} {A : Option Addr} {n c : Nat} {hs : List NodeH} {l : List NodeT} (h : NdO w b B A n c hs l) (hB : Below B w w') : NdO w' b B A n c hs l :=
  ⟨h.at_.good h.low hB.block, h.low, h.len, fun i hi => (h.hd i hi).below hB⟩
theorem nds_open {w : World} {b : List UInt8} {B : Nat} {A : Option Addr} {n c : Nat} {l : List NodeT} (h : NdsAt w b (fun k => k < B) A n c l) : ∃ hs, NdO w b B A n c hs l := by
  cases h with
  | mk hs l h hg hl h1 h2 =>
    have hn := h.len
    refine ⟨hs, h, hg, by omega, fun i hi => ?_⟩
    have e1 : hs[i]? = some (hs.getD i default) := by rw [List.getD_eq_getElem?_getD, List.getElem?_eq_getElem (by omega)]; rfl
    have e2 : l[i]? = some (l.getD i dN) := by rw [List.getD_eq_getElem?_getD, List.getElem?_eq_getElem (by omega)]; rfl
    obtain ⟨⟨⟨k1, _, k3, k4⟩, _⟩, b1, b2, b3⟩ := h1 i _ _ e1 e2
    exact ⟨k1.trans (kind_boxOf b _), b1, b2, b3, k3, k4, h2 i _ _ e1 e2⟩
/-- What has gives. -/
def HasG (w : World) (rb : Nat) (sc : Int) (tv bv : Value) (r : Rdr NodeT) (e : Ending) (w' : World) : Prop :=
  (∀ x, r = .ok x → e = .returned (.bool true) ∧ w = w') ∧ (∀ a : Nat, r = .bad a → WrG w rb sc tv bv (a : Int) e w')
theorem kidR_ok {l : List NodeT} {i : Nat} {k : List UInt8} {en : Nat} {x : NodeT} (h : kidR l i k en = .ok x) : i < l.length ∧ l.getD i dN = x ∧ x.kind = k := by
  unfold kidR at h
  cases hx : l[i]? with
  | none => rw [hx] at h; cases h
  | some y =>
    rw [hx] at h
    simp only at h
    split at h
    · rename_i hk
      cases h
      exact ⟨get_lt hx, by rw [List.getD_eq_getElem?_getD, hx]; rfl, hk⟩
    · cases h
theorem has_bad {w w' : World} {rb : Nat} {sc : Int} {tv bv : Value} {r : Rdr NodeT} {a : Nat} {e : Ending} (hr : r = .bad a) (h : WrG w rb sc tv bv (a : Int) e w') : HasG w rb sc tv bv r e w' :=
  ⟨fun x hx => (by rw [hr] at hx; cases hx), fun a' ha => by rw [hr] at ha; cases ha; exact h⟩
set_option linter.unusedVariables false in
set_option maxRecDepth 100000 in
set_option maxHeartbeats 4000000 in
theorem has_any {w : World} {rb : Nat} {sc : Int} {tv bv : Value} {a0 : Int} {b : List UInt8} {B : Nat} {A : Option Addr} {n c : Nat} {hs : List NodeH} {l : List NodeT} (i : Nat) (iz : Int) (hz : iz = (i : Int)) (k : List UInt8) (en : Nat)
    (hB : Blk w rb 66 (frC sc tv bv a0)) (h : NdO w b B A n c hs l) :
    Calls Try.prog 55 #[.pointer (some ⟨rb, 0, none⟩), .slice A n c, .int .i64 iz, .string ⟨k.toArray⟩, .int .i64 (en : Int)] w (HasG w rb sc tv bv (kidR l i k en)) := by
  subst hz
  have HW := hide (fun (a : Nat) => wrong_any (a := (a : Int)) hB)
  have hln := h.len
  have hbd := h.at_.bound
  have H := hide h
  clear hB h
  by_cases hi : i < n
  · obtain ⟨bA, oA, rfl, _⟩ := H.out.at_.addr (by omega)
    have hd := H.out.hd i hi
    have hk1 := hd.kind
    have hk2 := hd.beg
    have c0 := H.out.at_.cellK hi default 0 _ rfl
    have c4 := H.out.at_.cellK hi default 4 _ rfl
    have HR : Hid (kidR l i k en = if (l.getD i dN).kind = k then .ok (l.getD i dN) else .bad (l.getD i dN).beg) := hide (by
      unfold kidR
      rw [List.getD_eq_getElem?_getD, List.getElem?_eq_getElem (by omega)]; rfl)
    clear hd
    rw [hk1] at c0
    rw [hk2] at c4
    clear hk1 hk2
    generalize l.getD i dN = x at *
    generalize hkx : x.kind = kx at *
    generalize hbx : x.beg = gx at *
    generalize kidR l i k en = R at *
    have i1 : ¬ ((n : Int) ≤ (i : Int)) := by omega
    have i0 : (0 : Int) ≤ (i : Int) := by omega
    have i2 : (i : Int) < (n : Int) := by omega
    have i3 : ¬ ((i : Int) ≥ (n : Int)) := by omega
    have c0' : w.cell? ⟨bA, oA + i * 8, none⟩ = some (.string ⟨kx.toArray⟩) := c0
    clear c0
    by_cases hk : kx = k
    · subst hk
      have HE : Hid (R = .ok x) := hide (by rw [HR.out, if_pos rfl])
      have hne : (kx == kx) = true := by simp
      go_enter Try.func55, Try.ntmps55
      go_wp2_with fail
      go_ret
      exact ⟨fun y hy => ⟨rfl, rfl⟩, fun a ha => by rw [HE.out] at ha; cases ha⟩
    · have HE : Hid (R = .bad gx) := hide (by rw [HR.out, if_neg hk])
      have hne : (kx == k) = false := by simpa using hk
      go_enter Try.func55, Try.ntmps55
      go_wp2_with ((go_at_call 54; with_reducible refine (HW.out gx).mono ?_); rintro e w' ⟨rfl, p1, p2⟩)
      go_ret
      exact has_bad HE.out ⟨rfl, p1, p2⟩
  · have HE : Hid (kidR l i k en = .bad en) := hide (by unfold kidR; rw [List.getElem?_eq_none (by omega)])
    have i1 : (n : Int) ≤ (i : Int) := by omega
    have i3 : (i : Int) ≥ (n : Int) := by omega
    go_enter Try.func55, Try.ntmps55
    go_wp2_with ((go_at_call 54; with_reducible refine (HW.out en).mono ?_); rintro e w' ⟨rfl, p1, p2⟩)
    go_ret
    exact has_bad HE.out ⟨rfl, p1, p2⟩
end Go.Proofs.Ytlonhkjplijlcaa
