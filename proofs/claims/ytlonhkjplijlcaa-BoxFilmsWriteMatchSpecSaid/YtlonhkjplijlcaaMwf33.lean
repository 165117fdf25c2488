/- Several texts in one: Walks: bytes.Equal, sameBoxes of one tree told twice. Conditions as stated; Boxes of a film in plain words, and the memory in which they are made. No condition; Boxes of a film in memory, more. No condition. -/
import Derived.Test.YtlonhkjplijlcaaMwf07
import Derived.Lib.Bytes
import Derived.Deep.DeepCutAuto
import Derived.Test.YtlonhkjplijlcaaMwf20
import Derived.Test.YtlonhkjplijlcaaMwf25
import Derived.Test.YtlonhkjplijlcaaMwf32
import Derived.Test.YtlonhkjplijlcaaMwf30
import Derived.Lib.ConvBytes
import Derived.Test.YtlonhkjplijlcaaMwf05
namespace Go.Proofs.Ytlonhkjplijlcaa
open Go.RowKit
/-- The string of bytes. -/
def strB (l : List UInt8) : ByteArray := ⟨l.toArray⟩
theorem convert_bytes {w : World} {A : Option Addr} {n c : Nat} {l : List UInt8} (h : At w 1 e8 A n c l) :
    (convert 26 9 (.slice A n c)).run Try.prog w = .ok (.string (strB l)) w := by
  rcases Nat.eq_zero_or_pos n with h0 | h0
  · subst h0
    obtain rfl : l = [] := List.eq_nil_of_length_eq_zero h.len
    rw [run_convert_bytes_string w _ _ 5 A 0 c Try.underlying26 Try.underlying5 Try.underlying9]
    cases A <;> simp [Conv.bytesToString, loadCells]
    all_goals rfl
  · exact conv_bytes h h0
theorem bytesEq_any {A1 A2 : Option Addr} {n1 c1 n2 c2 : Nat} {l m : List UInt8} {w : World} (h1 : At w 1 e8 A1 n1 c1 l) (h2 : At w 1 e8 A2 n2 c2 m) :
    Calls Try.prog 8 #[.slice A1 n1 c1, .slice A2 n2 c2] w fun e w' => e = .returned (.bool (l == m)) ∧ w = w' := by
  have k1 := convert_bytes h1
  have k2 := convert_bytes h2
  generalize hs : strB l = s at k1
  generalize ht : strB m = t at k2
  have H1 := hide hs
  have H2 := hide ht
  clear h1 h2 hs ht
  go_enter Try.func8, Try.ntmps8
  go_wp2
  go_ret
  refine ⟨ret_bool ?_, rfl⟩
  rw [← H1.out, ← H2.out]
  simp [strB, ByteArray.toList_eq]
theorem drewN_add (w : World) (a b : Nat) : (w.drewN a).drewN b = w.drewN (a + b) := World.drewN_drewN _ _ _
theorem BxsAt.parts {w : World} {G : Nat → Prop} {A : Option Addr} {n c : Nat} {l : List BoxT} (h : BxsAt w G A n c l) : ∃ hs : List BoxH, At w 4 eBx A n c hs ∧ hs.length = l.length ∧ (∀ (i : Nat) (y : BoxH) (x : BoxT), hs[i]? = some y → l[i]? = some x → BxHd w G y x) ∧
    (∀ (i : Nat) (y : BoxH) (x : BoxT), hs[i]? = some y → l[i]? = some x → BxsAt w G y.kA y.kn y.kc x.kids) := by
  cases h with
  | mk hs l3 a1 a2 a3 a4 a5 => exact ⟨hs, a1, a3, a4, a5⟩
end Go.Proofs.Ytlonhkjplijlcaa
namespace Go.Proofs.Ytlonhkjplijlcaa
open Go.RowKit
/-- Letters of kinds. -/
abbrev kData : List UInt8 := [100, 97, 116, 97]
abbrev kHead : List UInt8 := [104, 101, 97, 100]
abbrev kName : List UInt8 := [110, 97, 109, 101]
abbrev kRate : List UInt8 := [114, 97, 116, 101]
abbrev kEdit : List UInt8 := [101, 100, 105, 116]
abbrev kTabl : List UInt8 := [116, 97, 98, 108]
/-- A box without kids. -/
def leafB (k : List UInt8) (d : List UInt8) : BoxT := .mk k 0 d []
/-- The box of a track whose chunks lie at places. -/
def trkB (x : TrkT) (ch : Nat) (pl : List Int) : BoxT := .mk kTrck 0 [] [leafB kName x.name, leafB kRate (beN 4 (u64N x.scale)), leafB kEdit (edB x.ed), leafB kTabl (tabBy (cmpT x.smp (ckL x.smp.length ch) pl))]
/-- The kids of the box of a film: of the first so many tracks. -/
def kidsB (sc : Int) (T : List TrkT) (ch : Nat) (P : List (List Int)) : Nat → List BoxT
  | 0 => [leafB kHead (beN 4 (u64N sc))]
  | i + 1 => kidsB sc T ch P i ++ [trkB (T.getD i default) ch (P.getD i [])]
theorem kidsB_len (sc : Int) (T : List TrkT) (ch : Nat) (P : List (List Int)) : ∀ i, (kidsB sc T ch P i).length = i + 1
  | 0 => rfl
  | i + 1 => by rw [kidsB, List.length_append, kidsB_len sc T ch P i]; rfl
def filmB (sc : Int) (T : List TrkT) (ch : Nat) (P : List (List Int)) : BoxT := .mk kFilm 0 [] (kidsB sc T ch P T.length)
def dataB (d : List UInt8) : BoxT := leafB kData d
/-! ### Memory -/
/-- Bytes in new blocks. -/
structure BtP (W : World) (B : Nat) (A : Option Addr) (n c : Nat) (l : List UInt8) : Prop where
  at_ : At W 1 e8 A n c l
  in_ : ∀ a, A = some a → B ≤ a.block ∧ a.block < W.heap.size
theorem BtP.ext {W W' : World} {B : Nat} {A : Option Addr} {n c : Nat} {l : List UInt8} (h : BtP W B A n c l) (he : Ext W W') : BtP W' B A n c l := ⟨h.at_.ext he, fun a ha => ⟨(h.in_ a ha).1, Nat.lt_of_lt_of_le (h.in_ a ha).2 he.size⟩⟩
theorem BtP.own {W : World} {B B' : Nat} {v : Value} {l : List UInt8} (h : Own W B 5 1 e8 v l) (hb : B' ≤ B) : ∃ A c, v = .slice A l.length c ∧ BtP W B' A l.length c l := by
  obtain ⟨A, c, hv, ha⟩ := h.at_ len_e8
  exact ⟨A, c, hv, ha, fun a hq => by have := h.lt a.block (by rw [hv, hq]; rfl); omega⟩
theorem own_lit {α : Type} {enc : α → List Value} {sz : Nat} {t : TypeId} (W : World) (cs : Array Value) (xs : List α) (h : xs.flatMap enc = cs.toList) (hsz : ∀ x, (enc x).length = sz) (base : Nat) (hb : base ≤ W.heap.size) (hm : xs.length ≤ maxLen) :
    Own (W.alloc (.cells cs t)) base t sz enc (.slice (some ⟨W.heap.size, 0, none⟩) xs.length xs.length) xs := by
  have h1 := World.ownsRow_lit (base := base) (size := sz) (e := t) W cs xs.length hb hm (by rw [← Array.length_toList, ← h, flat_len hsz])
  unfold Own
  rw [h]
  exact h1
/-- The cells of a box without kids. -/
def hdB (k : List UInt8) (A : Option Addr) (n c : Nat) : BoxH := ⟨k, 0, A, n, c, none, 0, 0⟩
def G1 (B : Nat) (W : World) : Nat → Prop := fun k => B ≤ k ∧ k < W.heap.size
theorem BtP.leaf {W : World} {B : Nat} {A : Option Addr} {n c : Nat} {d k : List UInt8} (h : BtP W B A n c d) : BxOk W (G1 B W) (hdB k A n c) (leafB k d) :=
  ⟨⟨rfl, rfl, h.at_, h.in_⟩, .mk [] [] (At.nil _ _ _) (fun a ha => by cases ha) rfl (fun i y x hy _ => by simp at hy) (fun i y x hy _ => by simp at hy)⟩
theorem G1.ext {B k : Nat} {W W' : World} (he : Ext W W') (h : G1 B W k) : G1 B W' k := ⟨h.1, Nat.lt_of_lt_of_le h.2 he.size⟩
theorem okG1 {W W' : World} {B : Nat} {y : BoxH} {x : BoxT} (h : BxOk W (G1 B W) y x) (he : Ext W W') : BxOk W' (G1 B W') y x := h.good (fun k hk => he.block k hk.2) (fun _ hk => hk.ext he)
set_option linter.unusedVariables false in
/-- Boxes that are made at once. -/
theorem lit_bxs {W : World} {B : Nat} (cs : Array Value) (hs : List BoxH) (l : List BoxT) (h : hs.flatMap eBx = cs.toList) (hb : B ≤ W.heap.size) (hl : hs.length = l.length) (hm : hs.length ≤ 100) (hok : ∀ (i : Nat) (y : BoxH) (x : BoxT), hs[i]? = some y → l[i]? = some x → BxOk W (G1 B W) y x) :
    BxsAt (W.alloc (.cells cs 47)) (G1 B (W.alloc (.cells cs 47))) (some ⟨W.heap.size, 0, none⟩) hs.length hs.length l := by
  have ho := own_lit W cs hs h len_eBx W.heap.size (Nat.le_refl _) (by unfold maxLen; omega) (t := 47)
  refine .mk hs l (ho.atS len_eBx) (fun a ha => ?_) hl (fun i y x hy hx => (okG1 (hok i y x hy hx) (Ext.alloc _ _)).1) (fun i y x hy hx => (okG1 (hok i y x hy hx) (Ext.alloc _ _)).2)
  injection ha with ha
  subst ha
  refine ⟨hb, ?_⟩
  rw [World.size_alloc]
  exact Nat.lt_succ_self _
/-- A row of boxes that the call owns, apart from one block. -/
structure RwO (W : World) (B o : Nat) (v : Value) (hs : List BoxH) (l : List BoxT) : Prop where
  own : Own W B 47 4 eBx v hs
  len : hs.length = l.length
  ne : v.ownBlock ≠ some o
  els : ∃ G : Nat → Prop, (∀ k, G k → B ≤ k ∧ k < W.heap.size ∧ v.ownBlock ≠ some k ∧ k ≠ o) ∧ ∀ (i : Nat) (y : BoxH) (x : BoxT), hs[i]? = some y → l[i]? = some x → BxOk W G y x
theorem RwO.ext {W W' : World} {B o : Nat} {v : Value} {hs : List BoxH} {l : List BoxT} (h : RwO W B o v hs l) (he : Ext W W') : RwO W' B o v hs l := by
  obtain ⟨h1, h2, h0, G, h3, h4⟩ := h
  exact ⟨h1.ext he, h2, h0, G, fun k hk => ⟨(h3 k hk).1, Nat.lt_of_lt_of_le (h3 k hk).2.1 he.size, (h3 k hk).2.2⟩, fun i y x hy hx => (h4 i y x hy hx).good (fun k hk => he.block k (h3 k hk).2.1) (fun _ hk => hk)⟩
theorem RwO.set_ {W : World} {B o i : Nat} {u v : Value} {hs : List BoxH} {l : List BoxT} (h : RwO W B o v hs l) : RwO (W.setCell ⟨o, i, none⟩ u) B o v hs l := by
  obtain ⟨h1, h2, h0, G, h3, h4⟩ := h
  have hT : Tw W (W.setCell ⟨o, i, none⟩ u) o none := Tw.set_ _ _ _ _ _
  exact ⟨h1.tw hT h0 (fun g _ e => by cases e), h2, h0, G, fun k hk => ⟨(h3 k hk).1, Nat.lt_of_lt_of_le (h3 k hk).2.1 hT.size, (h3 k hk).2.2⟩, fun i y x hy hx => (h4 i y x hy hx).good (fun k hk => hT.block k (h3 k hk).2.1 (h3 k hk).2.2.2 (by simp)) (fun _ hk => hk)⟩
/-- One more box, whose parts are new. -/
theorem RwO.snoc {W Wa W' : World} {B o : Nat} {v v' : Value} {hs : List BoxH} {l : List BoxT} {y : BoxH} {x : BoxT} (h : RwO W B o v hs l) (hbw : B ≤ W.heap.size) (ho : o < W.heap.size) (he : Ext W Wa) (hy : BxOk Wa (G1 W.heap.size Wa) y x)
    (hw : Own W' B 47 4 eBx v' (hs ++ [y])) (hg : Wa.grownBy W' v.ownBlock) (hr : v'.ownBlock = v.ownBlock ∨ v'.ownBlock = some Wa.heap.size) : RwO W' B o v' (hs ++ [y]) (l ++ [x]) := by
  obtain ⟨h1, h2, h0, G, h3, h4⟩ := h
  have hsz := he.size
  have hlt := h1.lt
  have hb : ∀ k, k < Wa.heap.size → v.ownBlock ≠ some k → W'.heap[k]? = Wa.heap[k]? := fun k hk hn => hg.block k hk (fun e => hn e.symm)
  refine ⟨hw, by simp [h2], ?_, fun k => G k ∨ (G1 W.heap.size Wa k), fun k hk => ?_, fun i y' x' hy' hx' => ?_⟩
  · rcases hr with hr | hr
    · rw [hr]; exact h0
    · rw [hr]; intro e; injection e with e; omega
  · have hk2 : B ≤ k ∧ k < Wa.heap.size ∧ v.ownBlock ≠ some k ∧ k ≠ o := by
      rcases hk with hk | hk
      · have := h3 k hk; exact ⟨this.1, by omega, this.2.2⟩
      · exact ⟨Nat.le_trans hbw hk.1, hk.2, fun e => by have := (hlt k e).2; have := hk.1; omega, by have := hk.1; omega⟩
    refine ⟨hk2.1, by have := hg.size; omega, ?_, hk2.2.2.2⟩
    rcases hr with hr | hr
    · rw [hr]; exact hk2.2.2.1
    · rw [hr]; intro e; injection e with e; omega
  · rcases get_snoc hy' with hy1 | ⟨hy1, rfl⟩
    · have hi := get_lt hy1
      have hx1 : l[i]? = some x' := by
        rw [List.getElem?_append_left (by omega)] at hx'
        exact hx'
      exact (h4 i y' x' hy1 hx1).good (fun k hk => (hb k (by have := (h3 k hk).2.1; omega) (h3 k hk).2.2.1).trans (he.block k (h3 k hk).2.1)) (fun _ hk => .inl hk)
    · have hx1 : x' = x := by
        rcases get_snoc hx' with hx1 | ⟨_, hx1⟩
        · have := get_lt hx1; omega
        · exact hx1
      subst hx1
      exact hy.good (fun k hk => hb k hk.2 (fun e => by have := (hlt k e).2; have := hk.1; omega)) (fun _ hk => .inr hk)
theorem RwO.at_ {W : World} {B o : Nat} {A : Option Addr} {n c : Nat} {hs : List BoxH} {l : List BoxT} (h : RwO W B o (.slice A n c) hs l) : BxsAt W (G1 B W) A n c l := by
  obtain ⟨h1, h2, _, G, h3, h4⟩ := h
  have hk : ∀ (i : Nat) (y : BoxH) (x : BoxT), hs[i]? = some y → l[i]? = some x → BxOk W (G1 B W) y x := fun i y x hy hx => (h4 i y x hy hx).good (fun _ _ => rfl) (fun k hk => ⟨(h3 k hk).1, (h3 k hk).2.1⟩)
  exact .mk hs l (h1.atS len_eBx) (fun a ha => by subst ha; exact h1.lt a.block rfl) h2 (fun i y x hy hx => (hk i y x hy hx).1) (fun i y x hy hx => (hk i y x hy hx).2)
/-- The first row, of boxes that are made at once. -/
theorem RwO.lit {W : World} {B o : Nat} (cs : Array Value) (hs : List BoxH) (l : List BoxT) (h : hs.flatMap eBx = cs.toList) (hb : B ≤ W.heap.size) (hl : hs.length = l.length) (hm : hs.length ≤ 100) (ho : ∀ k, G1 B W k → k ≠ o) (ho2 : W.heap.size ≠ o) (hok : ∀ (i : Nat) (y : BoxH) (x : BoxT), hs[i]? = some y → l[i]? = some x → BxOk W (G1 B W) y x) :
    RwO (W.alloc (.cells cs 47)) B o (.slice (some ⟨W.heap.size, 0, none⟩) hs.length hs.length) hs l := by
  refine ⟨own_lit W cs hs h len_eBx B hb (by unfold maxLen; omega), hl, fun e => ?_, G1 B W, fun k hk => ⟨hk.1, ?_, fun e => ?_, ho k hk⟩, fun i y x hy hx => (hok i y x hy hx).good (fun k hk => (Ext.alloc _ _).block k hk.2) (fun _ hk => hk)⟩
  · injection e with e; exact ho2 e
  · rw [World.size_alloc]; have := hk.2; omega
  · have e2 : some W.heap.size = some k := e
    injection e2 with e2
    have := hk.2
    omega
/-! ### A string turned into bytes -/
theorem bytesW_ext (w : World) (e : TypeId) (s : ByteArray) : Ext w (Go.Lib.bytesWorld w e s) :=
  ⟨rfl, rfl, rfl, by rw [Go.Lib.bytesWorld_size]; omega, fun k hk => Go.Lib.bytesWorld_at_old w e s k hk⟩
theorem bytesW_at (w : World) (l : List UInt8) (hl : l.length ≤ 1000000) : BtP (Go.Lib.bytesWorld w 5 ⟨l.toArray⟩) w.heap.size (some ⟨w.heap.size, 0, none⟩) l.length (grownCap w l.length 0 5) l := by
  refine ⟨⟨rfl, grownCap_ge _ _ _ _, grownCap_le_maxLen _ _ _ _ (by unfold maxLen; omega), (fun h => by cases h), fun k z hz => ⟨_, _, rfl, fun j v hv => ?_⟩⟩, fun a ha => ?_⟩
  · match j, hv with
    | 0, hv =>
      simp at hv; subst hv
      have hk := get_lt hz
      have h1 := Go.Lib.bytesWorld_cell w 5 ⟨l.toArray⟩ k (by show k < l.toArray.size; simpa using hk)
      rw [show 0 + k * 1 + 0 = k by omega, h1]
      have h2 : l.getD k 0 = z := by rw [List.getD_eq_getElem?_getD, hz]; rfl
      show some (Value.int .u8 (((⟨l.toArray⟩ : ByteArray).data.toList.getD k 0).toNat : Int)) = _
      rw [show ((⟨l.toArray⟩ : ByteArray).data.toList) = l from rfl, h2]
    | j + 1, hv => simp at hv
  · injection ha with ha
    subst ha
    rw [Go.Lib.bytesWorld_size]
    exact ⟨Nat.le_refl _, Nat.lt_succ_self _⟩
theorem conv_str (w : World) (l : List UInt8) : (convert 9 26 (.string ⟨l.toArray⟩)).run Try.prog w = .ok (.slice (some ⟨w.heap.size, 0, none⟩) l.length (grownCap w l.length 0 5)) (Go.Lib.bytesWorld w 5 ⟨l.toArray⟩) :=
  Go.Lib.run_convert_string_bytes w 9 26 5 ⟨l.toArray⟩ Try.underlying9 Try.underlying26 Try.underlying5
end Go.Proofs.Ytlonhkjplijlcaa
namespace Go.Proofs.Ytlonhkjplijlcaa
open Go.RowKit
/-- What comes behind a letter, in a world with a name. -/
theorem gen_hk {P : Act → World → Prop} {S : World → Prop} {c : Bool} {K : Act → World → Prop} {a : Act} {w : World} (hK : Shut (∀ a' w', (c = false → S w') → P a' w' → K a' w')) (h : ∀ W, W = w → (c = false → S W) ∧ P a W) : K a w :=
  hK.out _ _ (h w rfl).1 (h w rfl).2
/-- Names that are not long. -/
def nmS (l : List TrkT) : Prop := ∀ i, i < l.length → (l.getD i default).name.length ≤ 40
/-- The box of a film as it is made: its kids, and its own block. -/
structure FbM (w0 W : World) (xb : Nat) (v : Value) (hs : List BoxH) (l : List BoxT) : Prop where
  row : RwO W w0.heap.size xb v hs l
  cell : Blk W xb 47 #[.string ⟨kFilm.toArray⟩, .int .i64 0, .slice none 0 0, v]
  lo : w0.heap.size ≤ xb
  ext : Ext w0 W
theorem FbM.extW {w0 W W' : World} {xb : Nat} {v : Value} {hs : List BoxH} {l : List BoxT} (h : FbM w0 W xb v hs l) (he : Ext W W') : FbM w0 W' xb v hs l := ⟨h.row.ext he, h.cell.ext he, h.lo, Ext.trans h.ext he⟩
theorem FbM.mid {w0 W Wa W' : World} {xb : Nat} {v : Value} {hs : List BoxH} {l : List BoxT} (h : FbM w0 W xb v hs l) (he : Ext W Wa) (hg : Wa.grownBy W' v.ownBlock) : Blk W' xb 47 #[.string ⟨kFilm.toArray⟩, .int .i64 0, .slice none 0 0, v] :=
  (hg.block xb (h.cell.ext he).lt (fun e => h.row.ne e.symm)).trans (h.cell.ext he)
/-- One more kid, and the box stored anew. -/
theorem FbM.snoc {w0 W Wa W' : World} {xb : Nat} {v v' : Value} {hs : List BoxH} {l : List BoxT} {y : BoxH} {x : BoxT} (h : FbM w0 W xb v hs l) (he : Ext W Wa) (hy : BxOk Wa (G1 W.heap.size Wa) y x)
    (hw : Own W' w0.heap.size 47 4 eBx v' (hs ++ [y])) (hg : Wa.grownBy W' v.ownBlock) (hr : v'.ownBlock = v.ownBlock ∨ v'.ownBlock = some Wa.heap.size) : FbM w0 (W'.setCell ⟨xb, 3, none⟩ v') xb v' (hs ++ [y]) (l ++ [x]) := by
  have h1 := h.row.snoc h.ext.size h.cell.lt he hy hw hg hr
  have hT : Tw W' (W'.setCell ⟨xb, 3, none⟩ v') xb none := Tw.set_ _ _ _ _ _
  have e1 : Ext w0 W' := h.row.own.ext he |>.below (Ext.trans h.ext he) hg (Nat.le_refl _)
  exact ⟨h1.set_, (h.mid he hg).set_ 3 v', h.lo, tw_ext' e1 hT h.lo⟩
/-- What filmBox gives. -/
def FbG (w : World) (l : List BoxT) (e : Ending) (w' : World) : Prop := ∃ kA kn kc, e = .returned (.agg #[.string ⟨kFilm.toArray⟩, .int .i64 0, .slice none 0 0, .slice kA kn kc]) ∧ BxsAt w' (G1 w.heap.size w') kA kn kc l ∧ Ext w w'
theorem BtP.low {W : World} {B B' : Nat} {A : Option Addr} {n c : Nat} {l : List UInt8} (h : BtP W B A n c l) (hb : B' ≤ B) : BtP W B' A n c l := ⟨h.at_, fun a ha => ⟨Nat.le_trans hb (h.in_ a ha).1, (h.in_ a ha).2⟩⟩
theorem cmp_fw {W : World} {sA : Option Addr} {sn sc : Nat} {hA : Option Addr} {hn hc : Nat} {zA : Option Addr} {zn zc : Nat} {kA : Option Addr} {kn kc : Nat} {cA : Option Addr} {cn cc : Nat} {pA : Option Addr} {pn pc : Nat} {l : List Smp} {ch pl : List Int}
    (h : TabAt W sA sn sc hA hn hc zA zn zc kA kn kc cA cn cc pA pn pc (cmpT l ch pl)) (hl : l.length ≤ 5000) (hch : ch.length ≤ 5000) (hp : pl.length ≤ 5000) : TabFw sn hn zn kn cn pn := by
  have h1 := h.steps.len
  have h2 := h.shifts.len
  have h3 := h.sizes.len
  have h4 := h.keys.len
  have h5 := h.chunks.len
  have h6 := h.places.len
  unfold cmpT at h1 h2 h3 h4 h5 h6
  simp only at h1 h2 h3 h4 h5 h6
  have a1 := (rowK_bd Smp.step l l.length).1
  have a2 := (rowK_bd Smp.shift l l.length).1
  have a3 := szK_len l l.length
  have a4 := keyK_len l l.length
  have a5 := chK_len ch ch.length
  refine ⟨by omega, by omega, ?_, ?_, by omega, by omega⟩
  · rw [← h3]; split
    · rw [List.length_take]; omega
    · omega
  · rw [← h4]; split
    · simp
    · omega
/-- The cells that a round's box reads. -/
def FbS (xb tb gp i : Nat) (v u0 u1 u2 u3 u4 : Value) (V : World) : Prop := V.cell? ⟨xb, 3, none⟩ = some v ∧ V.cell? ⟨tb, 0, none⟩ = some u0 ∧ V.cell? ⟨tb, 1, none⟩ = some u1 ∧ V.cell? ⟨tb, 2, none⟩ = some u2 ∧ V.cell? ⟨tb, 3, none⟩ = some u3 ∧ V.cell? ⟨gp, i, none⟩ = some u4
theorem FbS.ext {xb tb gp i : Nat} {v u0 u1 u2 u3 u4 : Value} {W V : World} (h : FbS xb tb gp i v u0 u1 u2 u3 u4 W) (he : Ext W V) : FbS xb tb gp i v u0 u1 u2 u3 u4 V := ⟨he.cell h.1, he.cell h.2.1, he.cell h.2.2.1, he.cell h.2.2.2.1, he.cell h.2.2.2.2.1, he.cell h.2.2.2.2.2⟩
theorem FbS.grow {xb tb gp i : Nat} {v u0 u1 u2 u3 u4 : Value} {W V : World} {row : Option Nat} (h : FbS xb tb gp i v u0 u1 u2 u3 u4 W) (hg : W.grownBy V row) (h1 : row ≠ some xb) (h2 : row ≠ some tb) (h3 : row ≠ some gp) : FbS xb tb gp i v u0 u1 u2 u3 u4 V := by
  have key : ∀ (q k : Nat) (u : Value), row ≠ some q → W.cell? ⟨q, k, none⟩ = some u → V.cell? ⟨q, k, none⟩ = some u := fun q k u hq hc => cell_heap (hg.block q (by have := cell_lt hc; simpa using this) (fun e => hq e.symm)) hc
  exact ⟨key _ _ _ h1 h.1, key _ _ _ h2 h.2.1, key _ _ _ h2 h.2.2.1, key _ _ _ h2 h.2.2.2.1, key _ _ _ h2 h.2.2.2.2.1, key _ _ _ h3 h.2.2.2.2.2⟩
/-- Four boxes without kids. -/
theorem four_bxs {W : World} {B : Nat} {A1 A2 A3 A4 : Option Addr} {n1 c1 n2 c2 n3 c3 n4 c4 : Nat} {d1 d2 d3 d4 : List UInt8} (hb : B ≤ W.heap.size) (h1 : BtP W B A1 n1 c1 d1) (h2 : BtP W B A2 n2 c2 d2) (h3 : BtP W B A3 n3 c3 d3) (h4 : BtP W B A4 n4 c4 d4) :
    BxOk (W.alloc (.cells #[.string ⟨#[110, 97, 109, 101]⟩, .int .i64 0, .slice A1 n1 c1, .slice none 0 0, .string ⟨#[114, 97, 116, 101]⟩, .int .i64 0, .slice A2 n2 c2, .slice none 0 0, .string ⟨#[101, 100, 105, 116]⟩, .int .i64 0, .slice A3 n3 c3, .slice none 0 0, .string ⟨#[116, 97, 98, 108]⟩, .int .i64 0, .slice A4 n4 c4, .slice none 0 0] 47))
      (G1 B (W.alloc (.cells #[.string ⟨#[110, 97, 109, 101]⟩, .int .i64 0, .slice A1 n1 c1, .slice none 0 0, .string ⟨#[114, 97, 116, 101]⟩, .int .i64 0, .slice A2 n2 c2, .slice none 0 0, .string ⟨#[101, 100, 105, 116]⟩, .int .i64 0, .slice A3 n3 c3, .slice none 0 0, .string ⟨#[116, 97, 98, 108]⟩, .int .i64 0, .slice A4 n4 c4, .slice none 0 0] 47)))
      ⟨kTrck, 0, none, 0, 0, some ⟨W.heap.size, 0, none⟩, 4, 4⟩ (.mk kTrck 0 [] [leafB kName d1, leafB kRate d2, leafB kEdit d3, leafB kTabl d4]) := by
  have h9 := lit_bxs (W := W) (B := B) #[.string ⟨#[110, 97, 109, 101]⟩, .int .i64 0, .slice A1 n1 c1, .slice none 0 0, .string ⟨#[114, 97, 116, 101]⟩, .int .i64 0, .slice A2 n2 c2, .slice none 0 0, .string ⟨#[101, 100, 105, 116]⟩, .int .i64 0, .slice A3 n3 c3, .slice none 0 0, .string ⟨#[116, 97, 98, 108]⟩, .int .i64 0, .slice A4 n4 c4, .slice none 0 0] [hdB kName A1 n1 c1, hdB kRate A2 n2 c2, hdB kEdit A3 n3 c3, hdB kTabl A4 n4 c4] [leafB kName d1, leafB kRate d2, leafB kEdit d3, leafB kTabl d4] rfl hb rfl (by simp) (fun i y x hy hx => by
    match i, hy, hx with
    | 0, hy, hx => simp at hy hx; subst hy hx; exact h1.leaf
    | 1, hy, hx => simp at hy hx; subst hy hx; exact h2.leaf
    | 2, hy, hx => simp at hy hx; subst hy hx; exact h3.leaf
    | 3, hy, hx => simp at hy hx; subst hy hx; exact h4.leaf
    | i + 4, hy, hx => simp at hy)
  exact ⟨⟨rfl, rfl, At.nil _ _ _, fun a ha => by cases ha⟩, h9⟩
/-- The edits of a track, as they are written. -/
structure EdM (w5 W : World) (v : Value) (l : List UInt8) : Prop where
  own : Own W w5.heap.size 5 1 e8 v l
  ext : Ext w5 W
end Go.Proofs.Ytlonhkjplijlcaa
