/- Several texts in one: Walks: bytes.Equal, sameBoxes of one tree told twice. Conditions as stated; Boxes of a film in plain words, and the memory in which they are made. No condition; Walks: parse and Parse (program). Conditions as stated; Walk: awake. Conditions: none; Films read from bytes, in plain words. Plain but for the words of tracks; Plain: the samples of a track lie where its table tells, and give its bytes. Conditions as stated. -/
import Derived.Test.YtkbmgakehlmcnaaMtq18
import Derived.Lib.Bytes
import Derived.Deep.DeepCutAuto
import Derived.Test.YtkbmgakehlmcnaaMtq32
import Derived.Test.YtkbmgakehlmcnaaMtq35
import Derived.Test.YtkbmgakehlmcnaaMtq38
import Derived.Test.YtkbmgakehlmcnaaMtq36
import Derived.Lib.ConvBytes
import Derived.Test.YtkbmgakehlmcnaaMtq02
import Derived.Test.YtkbmgakehlmcnaaMtq20
import Derived.Test.YtkbmgakehlmcnaaMtq26
import Derived.Test.YtkbmgakehlmcnaaMtq23
import Derived.Test.YtkbmgakehlmcnaaMtq27
namespace Go.Proofs.Ytkbmgakehlmcnaa
open Go.RowKit
theorem BxsAt.parts {w : World} {G : Nat → Prop} {A : Option Addr} {n c : Nat} {l : List BoxT} (h : BxsAt w G A n c l) : ∃ hs : List BoxH, At w 4 eBx A n c hs ∧ hs.length = l.length ∧ (∀ (i : Nat) (y : BoxH) (x : BoxT), hs[i]? = some y → l[i]? = some x → BxHd w G y x) ∧
    (∀ (i : Nat) (y : BoxH) (x : BoxT), hs[i]? = some y → l[i]? = some x → BxsAt w G y.kA y.kn y.kc x.kids) := by
  cases h with
  | mk hs l3 a1 a2 a3 a4 a5 => exact ⟨hs, a1, a3, a4, a5⟩
abbrev kData : List UInt8 := [100, 97, 116, 97]
abbrev kHead : List UInt8 := [104, 101, 97, 100]
abbrev kName : List UInt8 := [110, 97, 109, 101]
abbrev kRate : List UInt8 := [114, 97, 116, 101]
abbrev kEdit : List UInt8 := [101, 100, 105, 116]
abbrev kTabl : List UInt8 := [116, 97, 98, 108]
def leafB (k : List UInt8) (d : List UInt8) : BoxT := .mk k 0 d []
def trkB (x : TrkT) (ch : Nat) (pl : List Int) : BoxT := .mk kTrck 0 [] [leafB kName x.name, leafB kRate (beN 4 (u64N x.scale)), leafB kEdit (edB x.ed), leafB kTabl (tabBy (cmpT x.smp (ckL x.smp.length ch) pl))]
def kidsB (sc : Int) (T : List TrkT) (ch : Nat) (P : List (List Int)) : Nat → List BoxT
  | 0 => [leafB kHead (beN 4 (u64N sc))]
  | i + 1 => kidsB sc T ch P i ++ [trkB (T.getD i default) ch (P.getD i [])]
theorem kidsB_len (sc : Int) (T : List TrkT) (ch : Nat) (P : List (List Int)) : ∀ i, (kidsB sc T ch P i).length = i + 1
  | 0 => rfl
  | i + 1 => by rw [kidsB, List.length_append, kidsB_len sc T ch P i]; rfl
def filmB (sc : Int) (T : List TrkT) (ch : Nat) (P : List (List Int)) : BoxT := .mk kFilm 0 [] (kidsB sc T ch P T.length)
def dataB (d : List UInt8) : BoxT := leafB kData d
structure BtP (W : World) (B : Nat) (A : Option Addr) (n c : Nat) (l : List UInt8) : Prop where
  at_ : At W 1 e8 A n c l
  in_ : ∀ a, A = some a → B ≤ a.block ∧ a.block < W.heap.size
theorem BtP.ext {W W' : World} {B : Nat} {A : Option Addr} {n c : Nat} {l : List UInt8} (h : BtP W B A n c l) (he : Ext W W') : BtP W' B A n c l := ⟨h.at_.ext he, fun a ha => ⟨(h.in_ a ha).1, Nat.lt_of_lt_of_le (h.in_ a ha).2 he.size⟩⟩
theorem BtP.own {W : World} {B B' : Nat} {v : Value} {l : List UInt8} (h : Own W B 5 1 e8 v l) (hb : B' ≤ B) : ∃ A c, v = .slice A l.length c ∧ BtP W B' A l.length c l := by
  obtain ⟨A, c, hv, ha⟩ := h.at_ len_e8
  exact ⟨A, c, hv, ha, fun a hq => by have := h.lt a.block (by rw [hv, hq]; rfl); omega⟩
theorem own_lit {α : Type} {enc : α → List Value} {sz : Nat} {t : TypeId} (W : World) (cs : Array Value) (xs : List α) (h : xs.flatMap enc = cs.toList) (hsz : ∀ x, (enc x).length = sz) (base : Nat) (hb : base ≤ W.heap.size) (hm : xs.length ≤ maxLen) :
    Own (W.alloc (.cells cs t)) base t sz enc (.slice (some ⟨W.heap.size, 0, none⟩) xs.length xs.length) xs := by
  have h1 := World.ownsRow_lit (base := base) (size := sz) (e := t) W cs xs.length hb hm (by rw [← Array.length_toList, ← h, flat_len hsz])
  unfold Own
  rw [h]
  exact h1
def hdB (k : List UInt8) (A : Option Addr) (n c : Nat) : BoxH := ⟨k, 0, A, n, c, none, 0, 0⟩
def G1 (B : Nat) (W : World) : Nat → Prop := fun k => B ≤ k ∧ k < W.heap.size
theorem BtP.leaf {W : World} {B : Nat} {A : Option Addr} {n c : Nat} {d k : List UInt8} (h : BtP W B A n c d) : BxOk W (G1 B W) (hdB k A n c) (leafB k d) :=
  ⟨⟨rfl, rfl, h.at_, h.in_⟩, .mk [] [] (At.nil _ _ _) (fun a ha => by cases ha) rfl (fun i y x hy _ => by simp at hy) (fun i y x hy _ => by simp at hy)⟩
theorem G1.ext {B k : Nat} {W W' : World} (he : Ext W W') (h : G1 B W k) : G1 B W' k := ⟨h.1, Nat.lt_of_lt_of_le h.2 he.size⟩
theorem okG1 {W W' : World} {B : Nat} {y : BoxH} {x : BoxT} (h : BxOk W (G1 B W) y x) (he : Ext W W') : BxOk W' (G1 B W') y x := h.good (fun k hk => he.block k hk.2) (fun _ hk => hk.ext he)
set_option linter.unusedVariables false in
theorem lit_bxs {W : World} {B : Nat} (cs : Array Value) (hs : List BoxH) (l : List BoxT) (h : hs.flatMap eBx = cs.toList) (hb : B ≤ W.heap.size) (hl : hs.length = l.length) (hm : hs.length ≤ 100) (hok : ∀ (i : Nat) (y : BoxH) (x : BoxT), hs[i]? = some y → l[i]? = some x → BxOk W (G1 B W) y x) :
    BxsAt (W.alloc (.cells cs 66)) (G1 B (W.alloc (.cells cs 66))) (some ⟨W.heap.size, 0, none⟩) hs.length hs.length l := by
  have ho := own_lit W cs hs h len_eBx W.heap.size (Nat.le_refl _) (by unfold maxLen; omega) (t := 66)
  refine .mk hs l (ho.atS len_eBx) (fun a ha => ?_) hl (fun i y x hy hx => (okG1 (hok i y x hy hx) (Ext.alloc _ _)).1) (fun i y x hy hx => (okG1 (hok i y x hy hx) (Ext.alloc _ _)).2)
  injection ha with ha
  subst ha
  refine ⟨hb, ?_⟩
  rw [World.size_alloc]
  exact Nat.lt_succ_self _
structure RwO (W : World) (B o : Nat) (v : Value) (hs : List BoxH) (l : List BoxT) : Prop where
  own : Own W B 66 4 eBx v hs
  len : hs.length = l.length
  ne : v.ownBlock ≠ some o
  els : ∃ G : Nat → Prop, (∀ k, G k → B ≤ k ∧ k < W.heap.size ∧ v.ownBlock ≠ some k ∧ k ≠ o) ∧ ∀ (i : Nat) (y : BoxH) (x : BoxT), hs[i]? = some y → l[i]? = some x → BxOk W G y x
theorem RwO.ext {W W' : World} {B o : Nat} {v : Value} {hs : List BoxH} {l : List BoxT} (h : RwO W B o v hs l) (he : Ext W W') : RwO W' B o v hs l := by
  obtain ⟨h1, h2, h0, G, h3, h4⟩ := h
  exact ⟨h1.ext he, h2, h0, G, fun k hk => ⟨(h3 k hk).1, Nat.lt_of_lt_of_le (h3 k hk).2.1 he.size, (h3 k hk).2.2⟩, fun i y x hy hx => (h4 i y x hy hx).good (fun k hk => he.block k (h3 k hk).2.1) (fun _ hk => hk)⟩
theorem RwO.set_ {W : World} {B o i : Nat} {u v : Value} {hs : List BoxH} {l : List BoxT} (h : RwO W B o v hs l) : RwO (W.setCell ⟨o, i, none⟩ u) B o v hs l := by
  obtain ⟨h1, h2, h0, G, h3, h4⟩ := h
  have hT : Tw W (W.setCell ⟨o, i, none⟩ u) o none := Tw.set_ _ _ _ _ _
  exact ⟨h1.tw hT h0 (fun g _ e => by cases e), h2, h0, G, fun k hk => ⟨(h3 k hk).1, Nat.lt_of_lt_of_le (h3 k hk).2.1 hT.size, (h3 k hk).2.2⟩, fun i y x hy hx => (h4 i y x hy hx).good (fun k hk => hT.block k (h3 k hk).2.1 (h3 k hk).2.2.2 (by simp)) (fun _ hk => hk)⟩
theorem RwO.snoc {W Wa W' : World} {B o : Nat} {v v' : Value} {hs : List BoxH} {l : List BoxT} {y : BoxH} {x : BoxT} (h : RwO W B o v hs l) (hbw : B ≤ W.heap.size) (ho : o < W.heap.size) (he : Ext W Wa) (hy : BxOk Wa (G1 W.heap.size Wa) y x)
    (hw : Own W' B 66 4 eBx v' (hs ++ [y])) (hg : Wa.grownBy W' v.ownBlock) (hr : v'.ownBlock = v.ownBlock ∨ v'.ownBlock = some Wa.heap.size) : RwO W' B o v' (hs ++ [y]) (l ++ [x]) := by
  obtain ⟨h1, h2, h0, G, h3, h4⟩ := h
  have hsz := he.size
  have hlt := h1.lt
  have hb : ∀ k, k < Wa.heap.size → v.ownBlock ≠ some k → W'.heap[k]? = Wa.heap[k]? := fun k hk hn => hg.block k hk (fun e => hn e.symm)
  refine ⟨hw, by simp [h2], ?_, fun k => G k ∨ (G1 W.heap.size Wa k), fun k hk => ?_, fun i y' x' hy' hx' => ?_⟩
  · rcases hr with hr | hr
    · rw [hr]; exact h0
    · rw [hr]; intro e; injection e with e; omega
  · have hk2 : B ≤ k ∧ k < Wa.heap.size ∧ v.ownBlock ≠ some k ∧ k ≠ o := by
      rcases hk with hk | hk
      · have := h3 k hk; exact ⟨this.1, by omega, this.2.2⟩
      · exact ⟨Nat.le_trans hbw hk.1, hk.2, fun e => by have := (hlt k e).2; have := hk.1; omega, by have := hk.1; omega⟩
    refine ⟨hk2.1, by have := hg.size; omega, ?_, hk2.2.2.2⟩
    rcases hr with hr | hr
    · rw [hr]; exact hk2.2.2.1
    · rw [hr]; intro e; injection e with e; omega
  · rcases get_snoc hy' with hy1 | ⟨hy1, rfl⟩
    · have hi := get_lt hy1
      have hx1 : l[i]? = some x' := by
        rw [List.getElem?_append_left (by omega)] at hx'
        exact hx'
      exact (h4 i y' x' hy1 hx1).good (fun k hk => (hb k (by have := (h3 k hk).2.1; omega) (h3 k hk).2.2.1).trans (he.block k (h3 k hk).2.1)) (fun _ hk => .inl hk)
    · have hx1 : x' = x := by
        rcases get_snoc hx' with hx1 | ⟨_, hx1⟩
        · have := get_lt hx1; omega
        · exact hx1
      subst hx1
      exact hy.good (fun k hk => hb k hk.2 (fun e => by have := (hlt k e).2; have := hk.1; omega)) (fun _ hk => .inr hk)
theorem RwO.at_ {W : World} {B o : Nat} {A : Option Addr} {n c : Nat} {hs : List BoxH} {l : List BoxT} (h : RwO W B o (.slice A n c) hs l) : BxsAt W (G1 B W) A n c l := by
  obtain ⟨h1, h2, _, G, h3, h4⟩ := h
  have hk : ∀ (i : Nat) (y : BoxH) (x : BoxT), hs[i]? = some y → l[i]? = some x → BxOk W (G1 B W) y x := fun i y x hy hx => (h4 i y x hy hx).good (fun _ _ => rfl) (fun k hk => ⟨(h3 k hk).1, (h3 k hk).2.1⟩)
  exact .mk hs l (h1.atS len_eBx) (fun a ha => by subst ha; exact h1.lt a.block rfl) h2 (fun i y x hy hx => (hk i y x hy hx).1) (fun i y x hy hx => (hk i y x hy hx).2)
theorem RwO.lit {W : World} {B o : Nat} (cs : Array Value) (hs : List BoxH) (l : List BoxT) (h : hs.flatMap eBx = cs.toList) (hb : B ≤ W.heap.size) (hl : hs.length = l.length) (hm : hs.length ≤ 100) (ho : ∀ k, G1 B W k → k ≠ o) (ho2 : W.heap.size ≠ o) (hok : ∀ (i : Nat) (y : BoxH) (x : BoxT), hs[i]? = some y → l[i]? = some x → BxOk W (G1 B W) y x) :
    RwO (W.alloc (.cells cs 66)) B o (.slice (some ⟨W.heap.size, 0, none⟩) hs.length hs.length) hs l := by
  refine ⟨own_lit W cs hs h len_eBx B hb (by unfold maxLen; omega), hl, fun e => ?_, G1 B W, fun k hk => ⟨hk.1, ?_, fun e => ?_, ho k hk⟩, fun i y x hy hx => (hok i y x hy hx).good (fun k hk => (Ext.alloc _ _).block k hk.2) (fun _ hk => hk)⟩
  · injection e with e; exact ho2 e
  · rw [World.size_alloc]; have := hk.2; omega
  · have e2 : some W.heap.size = some k := e
    injection e2 with e2
    have := hk.2
    omega
theorem bytesW_ext (w : World) (e : TypeId) (s : ByteArray) : Ext w (Go.Lib.bytesWorld w e s) :=
  ⟨rfl, rfl, rfl, by rw [Go.Lib.bytesWorld_size]; omega, fun k hk => Go.Lib.bytesWorld_at_old w e s k hk⟩
theorem bytesW_at (w : World) (l : List UInt8) (hl : l.length ≤ 1000000) : BtP (Go.Lib.bytesWorld w 5 ⟨l.toArray⟩) w.heap.size (some ⟨w.heap.size, 0, none⟩) l.length (grownCap w l.length 0 5) l := by
  refine ⟨⟨rfl, grownCap_ge _ _ _ _, grownCap_le_maxLen _ _ _ _ (by unfold maxLen; omega), (fun h => by cases h), fun k z hz => ⟨_, _, rfl, fun j v hv => ?_⟩⟩, fun a ha => ?_⟩
  · match j, hv with
    | 0, hv =>
      simp at hv; subst hv
      have hk := get_lt hz
      have h1 := Go.Lib.bytesWorld_cell w 5 ⟨l.toArray⟩ k (by show k < l.toArray.size; simpa using hk)
      rw [show 0 + k * 1 + 0 = k by omega, h1]
      have h2 : l.getD k 0 = z := by rw [List.getD_eq_getElem?_getD, hz]; rfl
      show some (Value.int .u8 (((⟨l.toArray⟩ : ByteArray).data.toList.getD k 0).toNat : Int)) = _
      rw [show ((⟨l.toArray⟩ : ByteArray).data.toList) = l from rfl, h2]
    | j + 1, hv => simp at hv
  · injection ha with ha
    subst ha
    rw [Go.Lib.bytesWorld_size]
    exact ⟨Nat.le_refl _, Nat.lt_succ_self _⟩
theorem conv_str (w : World) (l : List UInt8) : (convert 9 28 (.string ⟨l.toArray⟩)).run Try.prog w = .ok (.slice (some ⟨w.heap.size, 0, none⟩) l.length (grownCap w l.length 0 5)) (Go.Lib.bytesWorld w 5 ⟨l.toArray⟩) :=
  Go.Lib.run_convert_string_bytes w 9 28 5 ⟨l.toArray⟩ Try.underlying9 Try.underlying28 Try.underlying5
theorem nodes_any (m : Nat) : NodStmt m := Nat.strongRecOn (motive := NodStmt) m fun m ih => nodes_step m ih
def parseF (b : List UInt8) : ParR := if 1000000 < b.length then .err 0 2 else parF b 0 b.length 0 0
def ParGives (w : World) (b : List UInt8) (r : ParR) (e : Ending) (w' : World) : Prop :=
  Ext w w' ∧ (∀ a f, r = .err a f → e = .returned (.tuple #[.slice none 0 0, .int .i64 (a : Int), .int .i64 f])) ∧
  (∀ l cc, r = .ok l cc → ∃ N c2, e = .returned (.tuple #[.slice N l.length c2, .int .i64 0, .int .i64 0]) ∧ NdsAt w' b (fun k => w.heap.size ≤ k ∧ k < w'.heap.size) N l.length c2 l)
set_option maxRecDepth 100000 in
set_option maxHeartbeats 2000000 in
theorem parse_any {A : Option Addr} {n c : Nat} {b : List UInt8} {w : World} (h : At w 1 e8 A n c b) :
    Calls Try.prog 26 #[.slice A n c] w (ParGives w b (parseF b)) := by
  have hl := h.len
  have hbd := h.bound
  have hA := fun hn0 => h.blk_lt len_e8 (by omega) hn0
  by_cases hn : 1000000 < n
  · have HV : Hid (parseF b = .err 0 2) := hide (by unfold parseF; rw [if_pos (by omega)])
    clear hl h hA
    go_enter Try.func26, Try.ntmps26
    go_wp2_with fail
    refine bodyPost_ret (v := .tuple #[.slice none 0 0, .int .i64 0, .int .i64 2]) (by simp [results, Try.results26, go_sem]) rfl ⟨Ext.refl _, fun a f e => by rw [HV.out] at e; cases e; rfl, fun l cc e => by rw [HV.out] at e; cases e⟩
  have HV : Hid (parseF b = parF b 0 n 0 0) := hide (by unfold parseF; rw [if_neg (by omega), hl])
  have hk := Blk.new w 119 #[.slice A n c, .int .i64 0]
  have HN := nodes_any n (gp := w.heap.size) (f := 0) (t := n) (depth := 0) (cnt := 0) (A := A) (n := n) (c := c) (b := b) (w := w.alloc (.cells #[.slice A n c, .int .i64 0] 119)) (by omega) hk (h.ext (Ext.alloc _ _)) (fun hn0 a ha => by have := hA hn0 a ha; omega) (by omega) (Nat.le_refl _) (by omega) (by omega) (by omega)
  rw [show ((0 : Nat) : Int) = 0 from rfl] at HN
  have HNK := hide HN
  clear HN hk hl h
  go_enter Try.func26, Try.ntmps26
  go_wp2_with fail
  with_reducible refine HNK.out.mono ?_
  intro e w1 hg
  obtain ⟨t1, _, herr, hok⟩ := hg
  have E1 : Ext w w1 := ⟨t1.os, t1.tape, t1.output, by have := t1.size; rw [World.size_alloc] at this; omega, fun k hk => (t1.block k (by rw [World.size_alloc]; omega) (by omega) (by simp)).trans ((Ext.alloc w (.cells #[.slice A n c, .int .i64 0] 119)).block k hk)⟩
  have hs1 : w.heap.size + 1 ≤ w1.heap.size := by have := t1.size; rw [World.size_alloc] at this; omega
  rw [← HV.out] at herr hok
  cases hq : parseF b with
  | err a f =>
    have he := herr a f hq
    subst he
    have HE := hide E1
    have HQ := hide hq
    clear herr hok hq E1 t1
    go_wp2_with fail
    refine bodyPost_ret (v := .tuple #[.slice none 0 0, .int .i64 (a : Int), .int .i64 f]) (by simp [results, Try.results26, go_sem]) rfl ⟨HE.out, (fun a' f' e => by rw [HQ.out] at e; cases e; rfl), fun l cc e => by rw [HQ.out] at e; cases e⟩
  | ok l cc =>
    obtain ⟨N, c2, he, hnd⟩ := hok l cc hq
    subst he
    have HE := hide E1
    have HQ := hide hq
    have HND := hide (hnd.good (H := fun k => w.heap.size ≤ k ∧ k < w1.heap.size) (fun _ _ => rfl) (fun k hk => ⟨by have := hk.1; rw [World.size_alloc] at this; omega, hk.2⟩))
    clear herr hok hq E1 t1 hnd
    go_wp2_with fail
    refine bodyPost_ret (v := .tuple #[.slice N l.length c2, .int .i64 0, .int .i64 0]) (by simp [results, Try.results26, go_sem]) rfl ⟨HE.out, (fun a' f' e => by rw [HQ.out] at e; cases e), fun l cc e => by rw [HQ.out] at e; cases e; exact ⟨N, c2, rfl, HND.out⟩⟩
end Go.Proofs.Ytkbmgakehlmcnaa
namespace Go.Proofs.Ytkbmgakehlmcnaa
inductive Rdr (α : Type) where
  | bad (at_ : Nat)
  | ok (x : α)
def Rdr.then {α β : Type} (r : Rdr α) (f : α → Rdr β) : Rdr β := match r with
  | .bad a => .bad a
  | .ok x => f x
def ctB (b : List UInt8) (x : NodeT) : List UInt8 := cutB b x.dat x.en
def kidR (l : List NodeT) (i : Nat) (k : List UInt8) (en : Nat) : Rdr NodeT := match l[i]? with
  | none => .bad en
  | some x => if x.kind = k then .ok x else .bad x.beg
structure TrR where
  name : List UInt8
  scale : Int
  ed : List (Int × Int)
  tab : Tab
instance : Inhabited TrR := ⟨⟨[], 0, [], noTab⟩⟩
def sgn8 (l : List UInt8) : Int := IntKind.i64.wrap (numB l : Int)
def edK (c : List UInt8) : Nat → List (Int × Int)
  | 0 => []
  | k + 1 => edK c k ++ [(sgn8 (cutB c (16 * k) (16 * k + 8)), sgn8 (cutB c (16 * k + 8) (16 * k + 16)))]
def edR (c : List UInt8) : List (Int × Int) := edK c (c.length / 16)
def trkR (b : List UInt8) (n : NodeT) : Rdr TrR :=
  (kidR n.kids 0 kName n.en).then fun x0 =>
  (kidR n.kids 1 kRate n.en).then fun x1 => if (ctB b x1).length ≠ 4 then .bad x1.beg else
  (kidR n.kids 2 kEdit n.en).then fun x2 => if (ctB b x2).length % 16 ≠ 0 then .bad x2.beg else
  (kidR n.kids 3 kTabl n.en).then fun x3 => if rtF (ctB b x3) ≠ 0 then .bad x3.beg else
  match n.kids[4]? with
  | some x4 => .bad x4.beg
  | none => .ok ⟨ctB b x0, (numB (ctB b x1) : Int), edR (ctB b x2), rtV (ctB b x3)⟩
def trksK (b : List UInt8) (l : List NodeT) : Nat → Rdr (List TrR)
  | 0 => .ok []
  | k + 1 => (trksK b l k).then fun r => match l[k + 1]? with
    | none => .ok r
    | some x => if x.kind = kTrck then (trkR b x).then fun t => .ok (r ++ [t]) else .bad x.beg
def filR (b : List UInt8) (n : NodeT) : Rdr (Int × List TrR) :=
  (kidR n.kids 0 kHead b.length).then fun x0 => if (ctB b x0).length ≠ 4 then .bad x0.beg else
  (trksK b n.kids (n.kids.length - 1)).then fun r => .ok ((numB (ctB b x0) : Int), r)
def topK (b : List UInt8) (l : List NodeT) : Nat → Rdr (Option (Int × List TrR))
  | 0 => .ok none
  | k + 1 => (topK b l k).then fun f => match l[k]? with
    | none => .ok f
    | some x => if x.kind = kFilm then (match f with
      | some _ => .bad x.beg
      | none => (filR b x).then fun g => .ok (some g)) else .ok f
def topR (b : List UInt8) (l : List NodeT) : Rdr (Int × List TrR) := (topK b l l.length).then fun f => match f with
  | none => .bad b.length
  | some g => .ok g
def trkOf (t : TrR) : TrkT := ⟨t.name, t.scale, exS t.tab, t.ed⟩
def inD (l : List NodeT) (s : Int × Int) : Bool := l.any fun x => decide (x.kind = kData ∧ (x.dat : Int) ≤ s.1 ∧ s.1 + s.2 ≤ (x.en : Int))
def okSp (l : List NodeT) (s : Int × Int) : Bool := inD l s || decide (s.2 = 0)
def spB (b : List UInt8) (s : List (Int × Int)) : List UInt8 := s.flatMap fun x => pcB b x.1.toNat (x.1 + x.2).toNat
structure RfR where
  sc : Int
  trk : List TrkT
  dat : List (List UInt8)
  at_ : Int
  f : Int
def rfErr (a f : Int) : RfR := ⟨0, [], [], a, f⟩
def rfmF (b : List UInt8) : RfR := match parseF b with
  | .err a f => rfErr a f
  | .ok l _ => match topR b l with
    | .bad a => rfErr a 10
    | .ok (sc, r) =>
      if firstF (fun i => expF (r.getD i default).tab) r.length ≠ 0 then rfErr 0 (firstF (fun i => expF (r.getD i default).tab) r.length)
      else if filF sc (r.map trkOf) ≠ 0 then rfErr 0 (filF sc (r.map trkOf))
      else if (r.all fun t => (spS t.tab).all (okSp l)) = true then ⟨sc, r.map trkOf, r.map fun t => spB b (spS t.tab), 0, 0⟩ else rfErr 0 1
theorem pcB_jn {b : List UInt8} {i j k : Nat} (h1 : i ≤ j) (h2 : j ≤ k) : pcB b i j ++ pcB b j k = pcB b i k := by
  unfold pcB
  have e : b.drop j = (b.drop i).drop (j - i) := by rw [List.drop_drop]; congr 1; omega
  rw [e, show k - i = (j - i) + (k - j) by omega, List.take_add]
theorem pcB_lies {b l : List UInt8} {p : Nat} (h : Lies b p l) : pcB b p (p + l.length) = l := by
  unfold pcB; rw [show p + l.length - p = l.length by omega]; exact h.1
theorem pcB_zero (b : List UInt8) (j : Nat) : pcB b 0 j = b.take j := by unfold pcB; simp
section
variable {l : List Smp} {ch : Nat} {pl : List Int}
theorem ckL_len : (ckL l.length ch).length = ckN l.length ch := ckK_len _ _ _
theorem ckL_get {c : Nat} (h : c < ckN l.length ch) : (ckL l.length ch).getD c 0 = ((min ch (l.length - c * ch) : Nat) : Int) := ckK_get h
theorem ckL_sum (hc : 1 ≤ ch) : ∀ k, k ≤ ckN l.length ch → sumI (ckL l.length ch) k = ((min (k * ch) l.length : Nat) : Int)
  | 0, _ => by rw [Nat.zero_mul, Nat.zero_min]; rfl
  | k + 1, hk => by
    have h1 := (ckN_lt (n := l.length) (k := k) hc).1 (by omega)
    rw [sumI, ckL_sum hc k (by omega), ckL_get (by omega), Nat.succ_mul]
    omega
theorem ckN_end (hc : 1 ≤ ch) : l.length ≤ ckN l.length ch * ch := by
  have h1 := (ckN_lt (n := l.length) (k := ckN l.length ch) hc)
  have h2 : ¬ ckN l.length ch * ch < l.length := fun h => by have := h1.2 h; omega
  omega
theorem ck_cmpF (hs : smpF l = 0) (hc : 1 ≤ ch) (hc2 : ch ≤ 1000) (hl : pl.length = ckN l.length ch) (hp : ∀ j, j < pl.length → 0 ≤ pl.getD j 0 ∧ pl.getD j 0 ≤ 1000000) : cmpF l (ckL l.length ch) pl = 0 := by
  refine cmp_of ⟨hs, by rw [ckL_len, hl], fun i hi => ?_, ?_, firstF_zero (fun i hi => ?_)⟩
  · rw [ckL_len] at hi
    have h1 := (ckN_lt (n := l.length) (k := i) hc).1 hi
    rw [ckL_get hi]; omega
  · have h1 := ckN_end (l := l) hc
    rw [ckL_len, ckL_sum hc _ (Nat.le_refl _), Nat.min_eq_right h1]
  · have := hp i hi
    unfold plEl; rw [if_neg (by omega)]
section
variable (hs : smpF l = 0) (hF : cmpF l (ckL l.length ch) pl = 0)
include hs in
theorem ck_size {i : Nat} (hi : i < l.length) : exSz (cmpT l (ckL l.length ch) pl) i = (l.getD i dS).size := (cmpT_sizes hs (s := (cmpT l (ckL l.length ch) pl).sizes) rfl).2.2 i hi
include hs in
theorem ck_szP : ∀ k, k ≤ l.length → szP (cmpT l (ckL l.length ch) pl) k = ((szN (l.take k) : Nat) : Int)
  | 0, _ => by simp [szP, szN]
  | k + 1, hk => by
    have h1 := szOk_of hs k (by omega)
    rw [szP, ck_szP k (by omega), ck_size hs (by omega), szN_take (by omega)]
    omega
include hF in
theorem ck_spC {c : Nat} (hc : 1 ≤ ch) (h : c ≤ ckN l.length ch) : (spC (cmpT l (ckL l.length ch) pl) c).length = min (c * ch) l.length := by
  have h1 := spC_len (tab_right (cmp_right hF)).chunks c
  have h2 : allS (cmpT l (ckL l.length ch) pl).chunks c = sumI (ckL l.length ch) c := allS_chK _ _ (by rw [ckL_len]; exact h)
  rw [h2, ckL_sum hc c h] at h1
  omega
theorem ck_smO {c : Nat} (h : c < ckN l.length ch) : smO (cmpT l (ckL l.length ch) pl).chunks ((c : Int) + 1) = ((min ch (l.length - c * ch) : Nat) : Int) := by
  have h1 : smO (cmpT l (ckL l.length ch) pl).chunks ((c : Int) + 1) = (ckL l.length ch).getD c 0 := chK_smO _ _ _ (by rw [ckL_len]; exact h)
  rw [h1, ckL_get h]
theorem spB_ap2 (b : List UInt8) (x y : List (Int × Int)) : spB b (x ++ y) = spB b x ++ spB b y := by unfold spB; rw [List.flatMap_append]
include hs in
theorem ck_spI (b : List UInt8) (q s : Nat) : ∀ j, s + j ≤ l.length → spB b (spI (cmpT l (ckL l.length ch) pl) (q : Int) s j) = pcB b q (q + (szN (l.take (s + j)) - szN (l.take s)))
  | 0, _ => by
    have : pcB b q (q + (szN (l.take (s + 0)) - szN (l.take s))) = [] := by unfold pcB; simp
    rw [this]; rfl
  | j + 1, hj => by
    have ih := ck_spI b q s j (by omega)
    have h1 := szOk_of hs (s + j) (by omega)
    have h2 := szN_take (l := l) (k := s + j) (by omega)
    have h3 := szN_mono l (j := s) (k := s + j) (by omega)
    rw [spI, spB_ap2, ih, ck_szP hs (s + j) (by omega), ck_szP hs s (by omega), ck_size hs (by omega)]
    rw [show s + (j + 1) = s + j + 1 by omega, h2]
    generalize szN (l.take (s + j)) = B at *
    generalize szN (l.take s) = A at *
    generalize (l.getD (s + j) dS).size = z at *
    have e : spB b [((q : Int) + ((B : Int) - (A : Int)), z)] = pcB b (q + (B - A)) (q + (B + z.toNat - A)) := by
      unfold spB
      simp only [List.flatMap_cons, List.flatMap_nil, List.append_nil]
      rw [show ((q : Int) + ((B : Int) - (A : Int))).toNat = q + (B - A) by omega, show ((q : Int) + ((B : Int) - (A : Int)) + z).toNat = q + (B + z.toNat - A) by omega]
    rw [e]
    exact pcB_jn (by omega) (by omega)
include hs in
theorem ck_spI_in (q s : Nat) : ∀ j, s + j ≤ l.length → ∀ x ∈ spI (cmpT l (ckL l.length ch) pl) (q : Int) s j, (q : Int) ≤ x.1 ∧ 0 ≤ x.2 ∧ x.1 + x.2 ≤ ((q + (szN (l.take (s + j)) - szN (l.take s)) : Nat) : Int)
  | 0, _, x, hx => by cases hx
  | j + 1, hj, x, hx => by
    have h1 := szOk_of hs (s + j) (by omega)
    have h2 := szN_take (l := l) (k := s + j) (by omega)
    have h3 := szN_mono l (j := s) (k := s + j) (by omega)
    rw [show s + (j + 1) = s + j + 1 by omega, h2]
    rw [spI] at hx
    rcases List.mem_append.1 hx with hx | hx
    · have ih := ck_spI_in q s j (by omega) x hx
      omega
    · rw [List.mem_singleton] at hx
      subst hx
      rw [ck_szP hs (s + j) (by omega), ck_szP hs s (by omega), ck_size hs (by omega)]
      dsimp only
      omega
end
structure ChLie (b X : List UInt8) (l : List Smp) (ch : Nat) (pl : List Int) (a e : Nat) : Prop where
  len : pl.length = ckN l.length ch
  size : X.length = szN l
  few : e ≤ 1000000
  at_ : ∀ j, j < ckN l.length ch → ∃ q : Nat, pl.getD j 0 = (q : Int) ∧ a ≤ q ∧ q + (szN (l.take (min (j * ch + ch) l.length)) - szN (l.take (j * ch))) ≤ e ∧ Lies b q (pcB X (szN (l.take (j * ch))) (szN (l.take (min (j * ch + ch) l.length))))
variable {b X : List UInt8} {a e : Nat}
theorem ChLie.cmpF (h : ChLie b X l ch pl a e) (hs : smpF l = 0) (hc : 1 ≤ ch) (hc2 : ch ≤ 1000) : cmpF l (ckL l.length ch) pl = 0 :=
  ck_cmpF hs hc hc2 h.len (fun j hj => by
    obtain ⟨q, h1, h2, h3, _⟩ := h.at_ j (by have := h.len; omega)
    have := h.few
    rw [h1]; omega)
theorem ch_part {c : Nat} (hc : 1 ≤ ch) (h : c < ckN l.length ch) : c * ch < l.length ∧ c * ch + min ch (l.length - c * ch) = min (c * ch + ch) l.length := by
  have h1 := (ckN_lt (n := l.length) (k := c) hc).1 h
  omega
theorem ChLie.bytes (h : ChLie b X l ch pl a e) (hs : smpF l = 0) (hc : 1 ≤ ch) (hc2 : ch ≤ 1000) : ∀ c, c ≤ ckN l.length ch → spB b (spC (cmpT l (ckL l.length ch) pl) c) = X.take (szN (l.take (min (c * ch) l.length)))
  | 0, _ => by simp [spC, spB, szN]
  | c + 1, hk => by
    have hF := h.cmpF hs hc hc2
    have ih := h.bytes hs hc hc2 c (by omega)
    obtain ⟨h1, h2⟩ := ch_part (l := l) hc (show c < ckN l.length ch by omega)
    have h3 := ck_spC (pl := pl) hF hc (show c ≤ ckN l.length ch by omega)
    rw [Nat.min_eq_left (by omega)] at h3 ih
    obtain ⟨q, g1, _, _, g4⟩ := h.at_ c (by omega)
    have hz := h.size
    have m1 := szN_mono l (j := c * ch) (k := min (c * ch + ch) l.length) (by omega)
    have m2 := szN_le l (min (c * ch + ch) l.length)
    have hl := pcB_len (b := X) m1 (by omega)
    have hp : (cmpT l (ckL l.length ch) pl).places.getD c 0 = (q : Int) := g1
    rw [spC, spB_ap2, ih, hp, h3, ck_smO (by omega), Int.toNat_natCast, ck_spI hs b q (c * ch) _ (by omega), h2]
    have g5 := pcB_lies g4
    rw [hl] at g5
    rw [g5, Nat.succ_mul, ← pcB_zero, ← pcB_zero]
    exact pcB_jn (Nat.zero_le _) m1
theorem ChLie.all (h : ChLie b X l ch pl a e) (hs : smpF l = 0) (hc : 1 ≤ ch) (hc2 : ch ≤ 1000) : spB b (spS (cmpT l (ckL l.length ch) pl)) = X := by
  have h1 : (cmpT l (ckL l.length ch) pl).places.length = ckN l.length ch := h.len
  unfold spS
  rw [h1, h.bytes hs hc hc2 _ (Nat.le_refl _), Nat.min_eq_right (ckN_end hc), List.take_length, ← h.size, List.take_length]
theorem ChLie.inC (h : ChLie b X l ch pl a e) (hs : smpF l = 0) (hc : 1 ≤ ch) (hc2 : ch ≤ 1000) : ∀ c, c ≤ ckN l.length ch → ∀ x ∈ spC (cmpT l (ckL l.length ch) pl) c, (a : Int) ≤ x.1 ∧ x.1 + x.2 ≤ (e : Int)
  | 0, _, x, hx => by cases hx
  | c + 1, hk, x, hx => by
    have hF := h.cmpF hs hc hc2
    obtain ⟨h1, h2⟩ := ch_part (l := l) hc (show c < ckN l.length ch by omega)
    have h3 := ck_spC (pl := pl) hF hc (show c ≤ ckN l.length ch by omega)
    rw [Nat.min_eq_left (by omega)] at h3
    obtain ⟨q, g1, g2, g3, _⟩ := h.at_ c (by omega)
    have hp : (cmpT l (ckL l.length ch) pl).places.getD c 0 = (q : Int) := g1
    rw [spC] at hx
    rcases List.mem_append.1 hx with hx | hx
    · exact h.inC hs hc hc2 c (by omega) x hx
    · rw [hp, h3, ck_smO (by omega), Int.toNat_natCast] at hx
      have := ck_spI_in hs q (c * ch) _ (by omega) x hx
      rw [h2] at this
      omega
theorem ChLie.in_ (h : ChLie b X l ch pl a e) (hs : smpF l = 0) (hc : 1 ≤ ch) (hc2 : ch ≤ 1000) : ∀ x ∈ spS (cmpT l (ckL l.length ch) pl), (a : Int) ≤ x.1 ∧ x.1 + x.2 ≤ (e : Int) := by
  have h1 : (cmpT l (ckL l.length ch) pl).places.length = ckN l.length ch := h.len
  unfold spS
  rw [h1]
  exact h.inC hs hc hc2 _ (Nat.le_refl _)
theorem ChLie.expF (h : ChLie b X l ch pl a e) (hs : smpF l = 0) (hc : 1 ≤ ch) (hc2 : ch ≤ 1000) : expF (cmpT l (ckL l.length ch) pl) = 0 := by
  unfold Go.Proofs.Ytkbmgakehlmcnaa.expF
  rw [if_neg (by have := cmp_right (h.cmpF hs hc hc2); omega), if_neg]
  intro hb
  obtain ⟨x, hx, hx2⟩ := List.any_eq_true.1 hb
  have h1 := h.in_ hs hc hc2 x hx
  have h2 := h.few
  unfold bigS at hx2
  rw [decide_eq_true_eq] at hx2
  omega
end
end Go.Proofs.Ytkbmgakehlmcnaa
