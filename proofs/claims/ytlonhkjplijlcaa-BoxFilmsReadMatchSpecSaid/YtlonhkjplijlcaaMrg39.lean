/- Several texts in one: The state of the reference's reader of films. No condition; Nodes of parsed bytes lie within the bytes. No condition; Walks: the reference's reader (take, signed). Conditions as stated; Reading a fragment, in plain words. Plain. -/
import Derived.Test.YtlonhkjplijlcaaMrg28
import Derived.Test.YtlonhkjplijlcaaMrg38
import Derived.Test.YtlonhkjplijlcaaMrg37
import Derived.Test.YtlonhkjplijlcaaMrg32
import Derived.Test.YtlonhkjplijlcaaMrg05
import Derived.Test.YtlonhkjplijlcaaMrg06
import Derived.Test.YtlonhkjplijlcaaMrg09
namespace Go.Proofs.Ytlonhkjplijlcaa
open Go.RowKit
/-- The cells of a film as the reference reads it. -/
abbrev fiC (bS : Value) (sc : Int) (tv bv dv : Value) (a : Int) : Array Value := #[bS, .int .i64 sc, tv, bv, dv, .int .i64 a]
/-- A row of rows: elements that lie in good blocks, beside rows of two kinds. -/
structure FiI (w : World) (rb : Nat) (bS : Value) (sc : Int) (tv bv dv : Value) (a : Int) (hs : List TrkH) (l : List TrkT) (ts : List TbH) (tl : List Tab) : Prop where
  blk : Blk w rb 85 (fiC bS sc tv bv dv a)
  trk : Own w (rb + 1) 53 4 eTk tv hs
  tab : Own w (rb + 1) 73 7 eTb bv ts
  len : hs.length = l.length
  lenB : ts.length = tl.length
  dlt : ∀ g, dv.ownBlock = some g → g < w.heap.size
  els : ∃ G : Nat → Prop, (∀ k, G k → rb < k ∧ k < w.heap.size ∧ tv.ownBlock ≠ some k ∧ bv.ownBlock ≠ some k ∧ dv.ownBlock ≠ some k) ∧ (∀ (i : Nat) (y : TrkH) (x : TrkT), hs[i]? = some y → l[i]? = some x → TkG w G y x) ∧ (∀ (i : Nat) (y : TbH) (x : Tab), ts[i]? = some y → tl[i]? = some x → TbOk w G y x)
theorem FiI.new {w : World} {rb : Nat} {bS dv : Value} {sc a : Int} (h : Blk w rb 85 (fiC bS sc (.slice none 0 0) (.slice none 0 0) dv a)) (hd : ∀ g, dv.ownBlock = some g → g < w.heap.size) : FiI w rb bS sc (.slice none 0 0) (.slice none 0 0) dv a [] [] [] [] :=
  ⟨h, Own.nil _ _ _ _ _, Own.nil _ _ _ _ _, rfl, rfl, hd, fun _ => False, fun _ h => h.elim, fun _ _ _ h _ => (by simp at h), fun _ _ _ h _ => (by simp at h)⟩
theorem FiI.tw {w w' : World} {rb : Nat} {bS dv : Value} {sc sc' : Int} {tv bv : Value} {a a' : Int} {hs : List TrkH} {l : List TrkT} {ts : List TbH} {tl : List Tab} (h : FiI w rb bS sc tv bv dv a hs l ts tl) (hT : Tw w w' rb none) (hb : Blk w' rb 85 (fiC bS sc' tv bv dv a')) : FiI w' rb bS sc' tv bv dv a' hs l ts tl := by
  obtain ⟨_, h2, h3, h4, h5, hd, G, g1, g2, g3⟩ := h
  have hk : ∀ k, G k → w'.heap[k]? = w.heap[k]? := fun k hk => hT.block k (g1 k hk).2.1 (by have := (g1 k hk).1; omega) (by simp)
  exact ⟨hb, h2.tw hT (fun e => by have := (h2.lt _ e).1; omega) (fun g hg e => by cases e), h3.tw hT (fun e => by have := (h3.lt _ e).1; omega) (fun g hg e => by cases e), h4, h5, fun g hg => Nat.lt_of_lt_of_le (hd g hg) hT.size, G,
    fun k hk => ⟨(g1 k hk).1, Nat.lt_of_lt_of_le (g1 k hk).2.1 hT.size, (g1 k hk).2.2⟩, fun i y x hy hx => (g2 i y x hy hx).good hk (fun _ h => h), fun i y x hy hx => (g3 i y x hy hx).good hk (fun _ h => h)⟩
theorem FiI.ext {w w' : World} {rb : Nat} {bS dv : Value} {sc : Int} {tv bv : Value} {a : Int} {hs : List TrkH} {l : List TrkT} {ts : List TbH} {tl : List Tab} (h : FiI w rb bS sc tv bv dv a hs l ts tl) (he : Ext w w') : FiI w' rb bS sc tv bv dv a hs l ts tl :=
  h.tw (Tw.of_ext he _ _) (h.blk.ext he)
/-- One more table. -/
theorem FiI.table {w w1 w2 w3 : World} {rb : Nat} {bS dv : Value} {sc : Int} {tv bv bv' : Value} {a : Int} {hs : List TrkH} {l : List TrkT} {ts : List TbH} {tl : List Tab} {y : TbH} {t : Tab} {G' : Nat → Prop} (h : FiI w rb bS sc tv bv dv a hs l ts tl) (he : Ext w w1)
    (hy : TbOk w G' y t) (hG : ∀ k, G' k → rb < k ∧ k < w.heap.size ∧ tv.ownBlock ≠ some k ∧ bv.ownBlock ≠ some k ∧ dv.ownBlock ≠ some k) (ho : Own w2 (rb + 1) 73 7 eTb bv' (ts ++ [y])) (hg : w1.grownBy w2 bv.ownBlock) (hr : bv'.ownBlock = bv.ownBlock ∨ bv'.ownBlock = some w1.heap.size)
    (hT : Tw w2 w3 rb none) (hb : Blk w3 rb 85 (fiC bS sc tv bv' dv a)) : FiI w3 rb bS sc tv bv' dv a hs l (ts ++ [y]) (tl ++ [t]) := by
  obtain ⟨h1, h2, h3, h4, h5, hd, G, g1, g2, g3⟩ := h
  have hsz := he.size
  have hsz2 := hg.size
  have hsz3 := hT.size
  have hrb := h1.lt
  have hap := h2.apart h3 (by decide)
  have hb2 : ∀ k, k < w.heap.size → bv.ownBlock ≠ some k → k ≠ rb → w3.heap[k]? = w.heap[k]? := fun k hk hn hkr => (hT.block k (by omega) hkr (by simp)).trans ((hg.block k (by omega) (fun e => hn e.symm)).trans (he.block k hk))
  have hk2 : ∀ k, (G k ∨ G' k) → rb < k ∧ k < w.heap.size ∧ tv.ownBlock ≠ some k ∧ bv.ownBlock ≠ some k ∧ dv.ownBlock ≠ some k := fun k hk => by
    rcases hk with hk | hk
    · exact g1 k hk
    · exact hG k hk
  refine ⟨hb, ?_, ho.tw hT (fun e => by have := (ho.lt _ e).1; omega) (fun g hg e => by cases e), h4, by simp [h5], fun g hg => (by have := hd g hg; omega), fun k => G k ∨ G' k, fun k hk => ?_, fun i y' x' hy' hx' => ?_, fun i y' x' hy' hx' => ?_⟩
  · refine (((h2.ext he).kept hg ?_).tw hT (fun e => by have := (h2.lt _ e).1; omega) (fun g hg e => by cases e))
    cases hv : tv.ownBlock with
    | none => exact .inl rfl
    | some g => exact .inr (fun e => hap g hv e.symm)
  · obtain ⟨k1, k2, k3, k4, k5⟩ := hk2 k hk
    refine ⟨k1, by omega, k3, ?_, k5⟩
    rcases hr with hr | hr
    · rw [hr]; exact k4
    · rw [hr]; intro e; injection e with e; omega
  · exact (g2 i y' x' hy' hx').good (fun k hk => hb2 k (g1 k hk).2.1 (g1 k hk).2.2.2.1 (by have := (g1 k hk).1; omega)) (fun _ hk => .inl hk)
  · rcases get_snoc hy' with hy1 | ⟨hy1, rfl⟩
    · have hi := get_lt hy1
      have hx1 : tl[i]? = some x' := by
        rw [List.getElem?_append_left (by omega)] at hx'
        exact hx'
      exact (g3 i y' x' hy1 hx1).good (fun k hk => hb2 k (g1 k hk).2.1 (g1 k hk).2.2.2.1 (by have := (g1 k hk).1; omega)) (fun _ hk => .inl hk)
    · have hx1 : x' = t := by
        rcases get_snoc hx' with hx1 | ⟨_, hx1⟩
        · have := get_lt hx1; omega
        · exact hx1
      subst hx1
      exact hy.good (fun k hk => hb2 k (hG k hk).2.1 (hG k hk).2.2.2.1 (by have := (hG k hk).1; omega)) (fun _ hk => .inr hk)
/-- One more track. -/
theorem FiI.track {w w1 w2 w3 : World} {rb : Nat} {bS dv : Value} {sc : Int} {tv tv' bv : Value} {a : Int} {hs : List TrkH} {l : List TrkT} {ts : List TbH} {tl : List Tab} {y : TrkH} {t : TrkT} {G' : Nat → Prop} (h : FiI w rb bS sc tv bv dv a hs l ts tl) (he : Ext w w1)
    (hy : TkG w G' y t) (hG : ∀ k, G' k → rb < k ∧ k < w.heap.size ∧ tv.ownBlock ≠ some k ∧ bv.ownBlock ≠ some k ∧ dv.ownBlock ≠ some k) (ho : Own w2 (rb + 1) 53 4 eTk tv' (hs ++ [y])) (hg : w1.grownBy w2 tv.ownBlock) (hr : tv'.ownBlock = tv.ownBlock ∨ tv'.ownBlock = some w1.heap.size)
    (hT : Tw w2 w3 rb none) (hb : Blk w3 rb 85 (fiC bS sc tv' bv dv a)) : FiI w3 rb bS sc tv' bv dv a (hs ++ [y]) (l ++ [t]) ts tl := by
  obtain ⟨h1, h2, h3, h4, h5, hd, G, g1, g2, g3⟩ := h
  have hsz := he.size
  have hsz2 := hg.size
  have hsz3 := hT.size
  have hrb := h1.lt
  have hap := h2.apart h3 (by decide)
  have hb2 : ∀ k, k < w.heap.size → tv.ownBlock ≠ some k → k ≠ rb → w3.heap[k]? = w.heap[k]? := fun k hk hn hkr => (hT.block k (by omega) hkr (by simp)).trans ((hg.block k (by omega) (fun e => hn e.symm)).trans (he.block k hk))
  have hk2 : ∀ k, (G k ∨ G' k) → rb < k ∧ k < w.heap.size ∧ tv.ownBlock ≠ some k ∧ bv.ownBlock ≠ some k ∧ dv.ownBlock ≠ some k := fun k hk => by
    rcases hk with hk | hk
    · exact g1 k hk
    · exact hG k hk
  refine ⟨hb, ho.tw hT (fun e => by have := (ho.lt _ e).1; omega) (fun g hg e => by cases e), ?_, by simp [h4], h5, fun g hg => (by have := hd g hg; omega), fun k => G k ∨ G' k, fun k hk => ?_, fun i y' x' hy' hx' => ?_, fun i y' x' hy' hx' => ?_⟩
  · refine (((h3.ext he).kept hg ?_).tw hT (fun e => by have := (h3.lt _ e).1; omega) (fun g hg e => by cases e))
    cases hv : bv.ownBlock with
    | none => exact .inl rfl
    | some g => exact .inr (fun e => hap g e.symm hv)
  · obtain ⟨k1, k2, k3, k4, k5⟩ := hk2 k hk
    refine ⟨k1, by omega, ?_, k4, k5⟩
    rcases hr with hr | hr
    · rw [hr]; exact k3
    · rw [hr]; intro e; injection e with e; omega
  · rcases get_snoc hy' with hy1 | ⟨hy1, rfl⟩
    · have hi := get_lt hy1
      have hx1 : l[i]? = some x' := by
        rw [List.getElem?_append_left (by omega)] at hx'
        exact hx'
      exact (g2 i y' x' hy1 hx1).good (fun k hk => hb2 k (g1 k hk).2.1 (g1 k hk).2.2.1 (by have := (g1 k hk).1; omega)) (fun _ hk => .inl hk)
    · have hx1 : x' = t := by
        rcases get_snoc hx' with hx1 | ⟨_, hx1⟩
        · have := get_lt hx1; omega
        · exact hx1
      subst hx1
      exact hy.good (fun k hk => hb2 k (hG k hk).2.1 (hG k hk).2.2.1 (by have := (hG k hk).1; omega)) (fun _ hk => .inr hk)
  · exact (g3 i y' x' hy' hx').good (fun k hk => hb2 k (g1 k hk).2.1 (g1 k hk).2.2.1 (by have := (g1 k hk).1; omega)) (fun _ hk => .inl hk)
end Go.Proofs.Ytlonhkjplijlcaa
namespace Go.Proofs.Ytlonhkjplijlcaa
/-- So many layers of nodes lie within so many bytes. -/
def WfN (N : Nat) : Nat → List NodeT → Prop
  | 0, _ => True
  | d + 1, l => ∀ x ∈ l, x.dat ≤ x.en ∧ x.en ≤ N ∧ WfN N d x.kids
theorem parP_wf (b : List UInt8) (N : Nat) : ∀ (m f t depth cnt : Nat) (l : List NodeT) (c : Nat), parP b m f t depth cnt = .ok l c → t ≤ N → ∀ d, WfN N d l
  | 0, f, t, depth, cnt, l, c, h, ht, d => by
    unfold parP at h; cases h
    cases d with
    | zero => trivial
    | succ d => intro x hx; cases hx
  | m + 1, f, t, depth, cnt, l, c, h, ht, dd => by
    cases dd with
    | zero => trivial
    | succ dd =>
    unfold parP at h
    split at h
    · cases h; intro x hx; cases hx
    · split at h
      · cases h
      · cases hh : headP b f t with
        | none => rw [hh] at h; cases h
        | some r =>
          obtain ⟨k, fo, d, e⟩ := r
          rw [hh] at h
          simp only at h
          obtain ⟨h1, h2, h3, _⟩ := headP_some hh
          have key : ∀ (c1 : Nat) (y : NodeT), (y.dat ≤ y.en ∧ y.en ≤ N ∧ WfN N dd y.kids) → (parP b m e t depth c1).pre [y] = .ok l c → ∀ x ∈ l, x.dat ≤ x.en ∧ x.en ≤ N ∧ WfN N dd x.kids := by
            intro c1 y hy hp
            cases hq : parP b m e t depth c1 with
            | err a g => rw [hq] at hp; cases hp
            | ok r2 c2 =>
              rw [hq] at hp
              have ih := parP_wf b N m e t depth c1 r2 c2 hq ht (dd + 1)
              simp only [ParR.pre, ParR.ok.injEq] at hp
              obtain ⟨h4, h5⟩ := hp
              subst h4 h5
              intro x hx
              rcases List.mem_cons.1 (by simpa using hx : x ∈ y :: r2) with rfl | hx
              · exact hy
              · exact ih x hx
          split at h
          · cases hq : parP b m d e (depth + 1) (cnt + 1) with
            | err a g => rw [hq] at h; cases h
            | ok kids c1 =>
              rw [hq] at h
              exact key c1 _ ⟨by show d ≤ e; exact h2, by show e ≤ N; omega, by show WfN N dd kids; exact parP_wf b N m d e (depth + 1) (cnt + 1) kids c1 hq (by omega) dd⟩ h
          · exact key (cnt + 1) _ ⟨by show d ≤ e; exact h2, by show e ≤ N; omega, by
              show WfN N dd []
              cases dd with
              | zero => trivial
              | succ d => intro x hx; cases hx⟩ h
theorem WfN.at_ {N d : Nat} {l : List NodeT} (h : WfN N (d + 1) l) {i : Nat} (hi : i < l.length) : (l.getD i (.mk [] 0 0 0 0 [])).dat ≤ (l.getD i (.mk [] 0 0 0 0 [])).en ∧ (l.getD i (.mk [] 0 0 0 0 [])).en ≤ N ∧ WfN N d (l.getD i (.mk [] 0 0 0 0 [])).kids := by
  rw [List.getD_eq_getElem?_getD, List.getElem?_eq_getElem hi]
  exact h _ (List.getElem_mem hi)
end Go.Proofs.Ytlonhkjplijlcaa
namespace Go.Proofs.Ytlonhkjplijlcaa
open Go.RowKit
/-- Where the reference says that something is wrong: -1 where nothing is. -/
def badI (s : Rd) : Int := if s.bad = true then (s.pos : Int) else -1
/-- The reader's cells: where it is may be anything once something was wrong. -/
def RdrB (w : World) (rb : Nat) (A : Option Addr) (n c : Nat) (s : Rd) : Prop := ∃ p : Int, Blk w rb 164 #[.slice A n c, .int .i64 p, .int .i64 (badI s)] ∧ (s.bad = false → p = (s.pos : Int))
/-- What the reference's take gives: bytes. -/
def tkL (b : List UInt8) (k : Nat) (s : Rd) : List UInt8 := if s.bad = true ∨ b.length - s.pos < k then List.replicate k 0 else cutB b s.pos (s.pos + k)
theorem numB_nought : ∀ k, numB (List.replicate k 0) = 0
  | 0 => rfl
  | k + 1 => by rw [List.replicate_succ', numB_snoc, numB_nought k]; rfl
theorem tkL_num (b : List UInt8) (k : Nat) (s : Rd) : numB (tkL b k s) = (rdN b k s).1 := by
  unfold tkL rdN
  split
  · exact numB_nought k
  · rfl
theorem tkL_len {b : List UInt8} {k : Nat} {s : Rd} : (tkL b k s).length = k := by
  unfold tkL
  split
  · simp
  · rename_i hc
    have h1 : ¬ b.length - s.pos < k := fun h1 => hc (.inr h1)
    rcases Nat.eq_zero_or_pos k with h0 | h0
    · subst h0; unfold cutB; simp
    · exact cutB_len (by omega)
theorem made8 (m : Nat) (hm : m ≤ 8) : ∀ W : World, (Instr.makeSlice 26 (.int .i64 (m : Int)) (.int .i64 (m : Int))).run Try.prog W = .ok (.slice (some ⟨W.heap.size, 0, none⟩) m m) (W.alloc (.cells (madeCells #[.int .u8 0] m) 5)) := fun W => by
  obtain ⟨i0_, hi0, hz0, hz1, hz2⟩ := info_parts Try.info5
  have := made_run (P := Try.prog) 26 5 i0_ (.int .u8 0) Try.underlying26 hi0 hz0 (sz := 1) hz1 (bytes := 1) hz2 m (by omega) (by omega) W
  rw [Nat.mul_one] at this
  exact this
theorem made8_at (W : World) (m : Nat) (hm : m ≤ 8) : At (W.alloc (.cells (madeCells #[.int .u8 0] m) 5)) 1 e8 (some ⟨W.heap.size, 0, none⟩) m m (List.replicate m (0 : UInt8)) := by
  have := made_own (enc := e8) (x := (0 : UInt8)) (t := 5) (z := #[Value.int .u8 0]) (sz := 1) rfl rfl (by omega) W W.heap.size m (Nat.le_refl _) (by unfold maxLen; omega)
  rw [Nat.mul_one] at this
  exact this.atS len_e8
set_option linter.unusedVariables false in
set_option maxRecDepth 100000 in
set_option maxHeartbeats 4000000 in
theorem take_any {rb : Nat} {A : Option Addr} {n c k : Nat} {b : List UInt8} {s : Rd} {w : World} (hB : RdrB w rb A n c s) (h : At w 1 e8 A n c b) (hne : 0 < n → ∀ a, A = some a → a.block ≠ rb) (hp : s.pos ≤ n) (hk : 1 ≤ k ∧ k ≤ 8) :
    Calls Try.prog 103 #[.pointer (some ⟨rb, 0, none⟩), .int .i64 (k : Int)] w fun e w' => (∃ T tc, e = .returned (.slice T k tc) ∧ At w' 1 e8 T k tc (tkL b k s)) ∧ RdrB w' rb A n c (rdN b k s).2 ∧ Tw w w' rb none := by
  obtain ⟨hk1, hk2⟩ := hk
  have hl := h.len
  have hb := h.bound
  have hle := h.le
  have hbc := h.boundc
  obtain ⟨at_, bad⟩ := s
  have hp : at_ ≤ n := hp
  obtain ⟨p, hB, hpp⟩ := hB
  have HB := hide hB
  have c0 : w.cell? ⟨rb, 0, none⟩ = some (.slice A n c) := hB.cell 0
  have c1 : w.cell? ⟨rb, 1, none⟩ = some (.int .i64 p) := hB.cell 1
  have c2 : w.cell? ⟨rb, 2, none⟩ = some (.int .i64 (badI ⟨at_, bad⟩)) := hB.cell 2
  have z1 : w.frozen? ⟨rb, 1, none⟩ = false := hB.frozen 1
  have z2 : w.frozen? ⟨rb, 2, none⟩ = false := hB.frozen 2
  have hsb := hB.lt
  have HL := hide hl
  have H := hide h
  have HNE := hide hne
  have hmk := made8 k hk2
  have HMA := hide (fun (W : World) => made8_at W k hk2)
  clear hB h hl hne
  cases bad with
  | true =>
    have HR : Hid (rdN b k ⟨at_, true⟩ = (0, ⟨at_, true⟩) ∧ tkL b k ⟨at_, true⟩ = List.replicate k 0) := hide ⟨rdN_bad (.inl rfl), by unfold tkL; rw [if_pos (.inl rfl)]⟩
    have e2 : badI ⟨at_, true⟩ = (at_ : Int) := rfl
    have HE2 := hide e2
    rw [e2] at c2
    clear e2 hpp
    go_enter Try.func103, Try.ntmps103
    go_wp2_with fail
    go_ret
    rw [HR.out.1, HR.out.2]
    exact ⟨⟨_, _, rfl, HMA.out _⟩, ⟨p, HB.out.alloc _, fun h => by cases h⟩, Tw.of_ext (Ext.alloc _ _) _ _⟩
  | false =>
    obtain rfl : p = (at_ : Int) := hpp rfl
    have e2 : badI ⟨at_, false⟩ = -1 := rfl
    rw [e2] at c2
    have d1 : IntKind.i64.wrap ((n : Int) - (at_ : Int)) = (n : Int) - (at_ : Int) := by rw [IntKind.wrap_i64]; omega
    clear e2 hpp
    by_cases hs : n - at_ < k
    · have HR : Hid (rdN b k ⟨at_, false⟩ = (0, ⟨at_, true⟩) ∧ tkL b k ⟨at_, false⟩ = List.replicate k 0) := hide ⟨rdN_bad (.inr (by show b.length - at_ < k; have := HL.out; omega)), by unfold tkL; rw [if_pos (.inr (by show b.length - at_ < k; have := HL.out; omega))]⟩
      have i1 : (n : Int) - (at_ : Int) < (k : Int) := by omega
      clear hs
      go_enter Try.func103, Try.ntmps103
      go_wp2_with fail
      go_quiet (fail)
      go_wp2_with fail
      go_ret
      rw [HR.out.1, HR.out.2]
      refine ⟨⟨_, _, rfl, ?_⟩, ⟨(at_ : Int), ((HB.out.drewN _).set_ 2 _).alloc _, fun h => by cases h⟩, ((Tw.of_ext (Ext.drewN _ _) _ _).trans (Tw.set_ _ _ _ _ _)).trans (Tw.of_ext (Ext.alloc _ _) _ _)⟩
      have := HMA.out ((w.drewN nq).setCell ⟨rb, 2, none⟩ (.int .i64 (at_ : Int)))
      simpa using this
    · have HR : Hid (rdN b k ⟨at_, false⟩ = (numB (cutB b at_ (at_ + k)), ⟨at_ + k, false⟩) ∧ tkL b k ⟨at_, false⟩ = cutB b at_ (at_ + k)) := hide ⟨rdN_ok rfl (by show k ≤ b.length - at_; have := HL.out; omega), by unfold tkL; rw [if_neg (by simp; have := HL.out; omega)]⟩
      have i1 : ¬ (n : Int) - (at_ : Int) < (k : Int) := by omega
      have d2 : IntKind.i64.wrap ((at_ : Int) + (k : Int)) = (at_ : Int) + (k : Int) := by rw [IntKind.wrap_i64]; omega
      have d3 : IntKind.i64.wrap ((at_ : Int) + (k : Int) - (k : Int)) = (at_ : Int) := by rw [IntKind.wrap_i64]; omega
      obtain ⟨A1, hr1, ha1⟩ := H.out.range_ Try.underlying26 (fun _ => by kernel_rfl) (k := at_) (m := at_ + k) (by omega) (by omega) (at_ : Int) ((at_ : Int) + (k : Int)) rfl (by omega)
      have e1 : (b.drop at_).take (at_ + k - at_) = cutB b at_ (at_ + k) := rfl
      rw [e1] at ha1
      rw [show at_ + k - at_ = k by omega] at hr1 ha1
      have HN := hide (fun (W : World) (hW : Tw w W rb none) => ha1 W (H.out.twn hW HNE.out))
      clear ha1 e1 hs
      go_enter Try.func103, Try.ntmps103
      go_wp2_with fail
      go_quiet (fail)
      go_upto_region 7 with (fail)
      refine gen_wpC fun w2 h2 => ?_
      have T2 : Hid (Tw w w2 rb none) := hide (by rw [h2]; exact (Tw.of_ext (Ext.drewN _ _) _ _).trans (Tw.set_ _ _ _ _ _))
      have B2 : Hid (Blk w2 rb 164 #[.slice A n c, .int .i64 ((at_ : Int) + (k : Int)), .int .i64 (-1)]) := hide (by rw [h2]; exact (HB.out.drewN _).set_ 1 _)
      have c0 : w2.cell? ⟨rb, 0, none⟩ = some (.slice A n c) := B2.out.cell 0
      have c1 : w2.cell? ⟨rb, 1, none⟩ = some (.int .i64 ((at_ : Int) + (k : Int))) := B2.out.cell 1
      clear h2
      go_quiet (fail)
      go_wp2_with fail
      go_ret
      rw [HR.out.1, HR.out.2]
      exact ⟨⟨_, _, rfl, HN.out _ (T2.out.drewN _)⟩, ⟨_, (by have := B2.out.drewN nq; exact this), fun _ => (Int.natCast_add _ _).symm⟩, T2.out.drewN _⟩
theorem tkN {rb : Nat} {A : Option Addr} {n c : Nat} {b : List UInt8} {s : Rd} {w : World} (k : Nat) (z : Int) (hz : (k : Int) = z) (hB : RdrB w rb A n c s) (h : At w 1 e8 A n c b) (hne : 0 < n → ∀ a, A = some a → a.block ≠ rb) (hp : s.pos ≤ n) (hk : 1 ≤ k ∧ k ≤ 8) :
    Calls Try.prog 103 #[.pointer (some ⟨rb, 0, none⟩), .int .i64 z] w fun e w' => (∃ T tc, e = .returned (.slice T k tc) ∧ At w' 1 e8 T k tc (tkL b k s)) ∧ RdrB w' rb A n c (rdN b k s).2 ∧ Tw w w' rb none := by
  rw [← hz]; exact take_any hB h hne hp hk
/-- What the reference takes bytes for, with a sign. -/
def sgnR (l : List UInt8) : Int := if l.length = 4 ∧ 2147483648 ≤ numB l then (numB l : Int) - 4294967296 else IntKind.i64.wrap (numB l : Int)
set_option maxRecDepth 100000 in
set_option maxHeartbeats 2000000 in
theorem signed_any {A : Option Addr} {n c : Nat} {l : List UInt8} {w : World} (h : At w 1 e8 A n c l) (hn : n ≤ 8) :
    Calls Try.prog 89 #[.slice A n c] w fun e w' => e = .returned (.int .i64 (sgnR l)) ∧ w = w' := by
  have hl := h.len
  have H := hide h
  have HL := hide hl
  clear h hl
  go_enter Try.func89, Try.ntmps89
  go_wp2_with fail
  go_loop [3, 4] (fun rn ri => ∃ k : Nat, k ≤ n ∧ ri = .int .i64 k ∧ rn = .int .u64 (numB (l.take k))) (fun _ ri => n - (intOf ri).toNat)
  case atStart => exact ⟨0, by omega, rfl, rfl⟩
  case round =>
    obtain ⟨k, hk, rfl, rfl⟩ := hrel
    by_cases hlt : k < n
    · obtain ⟨b, off, rfl, _⟩ := H.out.addr (by omega)
      have hkl : k < l.length := by have := HL.out; omega
      have c1 := H.out.byte hkl
      have i1 : (k : Int) < (n : Int) := by omega
      have hst := numB_take hkl
      have hlt2 := numB_lt k (l.take k) (by rw [List.length_take]; omega)
      have hlt3 := numB_lt (k + 1) (l.take (k + 1)) (by rw [List.length_take]; omega)
      have hpw : 256 ^ (k + 1) ≤ 256 ^ 8 := Nat.pow_le_pow_right (by omega) (by omega)
      have hpw2 : (256 : Nat) ^ 8 = 18446744073709551616 := by decide
      have HST : Hid ((numB (l.take k) : Int) * 256 + (l[k].toNat : Int) = (numB (l.take (k + 1)) : Int)) := hide (by rw [hst]; push_cast; rfl)
      have hbb := (l[k]).toNat_lt
      have hq1 : numB (l.take k) * 256 + l[k].toNat < 18446744073709551616 := by omega
      generalize numB (l.take k) = q at *
      have u1 : IntKind.u64.wrap ((q : Int) * 256) = (q : Int) * 256 := by rw [IntKind.wrap_u64]; omega
      have u2 : IntKind.u64.wrap ((q : Int) * 256 + (l[k].toNat : Int)) = (q : Int) * 256 + (l[k].toNat : Int) := by rw [IntKind.wrap_u64]; omega
      clear hlt2 hst hlt3 hpw hpw2
      go_wp2_with fail
      exact ⟨⟨k + 1, by omega, by go_num, by rw [HST.out]⟩, by simp [intOf]; omega⟩
    · obtain rfl : n = k := by omega
      have HE : Hid (l.take n = l) := hide (by rw [← HL.out, List.take_length])
      rw [HE.out]
      have hlt2 := numB_lt n l HL.out
      have HSG : Hid (sgnR l = if n = 4 ∧ 2147483648 ≤ numB l then (numB l : Int) - 4294967296 else IntKind.i64.wrap (numB l : Int)) := hide (by unfold sgnR; rw [HL.out])
      have i1 : ¬ (n : Int) < (n : Int) := by omega
      have hn4 : n = 4 → numB l < 4294967296 := fun h4 => by subst h4; exact hlt2
      generalize numB l = q at *
      clear hlt2
      by_cases h4 : n = 4
      · have hq := hn4 h4
        have d0 : ((n : Int) == 4) = true := by rw [beq_iff_eq]; omega
        have u1 : IntKind.i64.wrap (q : Int) = (q : Int) := by rw [IntKind.wrap_i64]; omega
        have u2 : IntKind.i64.wrap ((q : Int) - 4294967296) = (q : Int) - 4294967296 := by rw [IntKind.wrap_i64]; omega
        by_cases hbig : 2147483648 ≤ q
        · have HV : Hid (sgnR l = (q : Int) - 4294967296) := hide (by rw [HSG.out, if_pos ⟨h4, hbig⟩])
          have j1 : (2147483648 : Int) ≤ (q : Int) := by omega
          have j2 : decide ((2147483648 : Int) ≤ (q : Int)) = true := by simp; omega
          have j3 : decide (2147483648 ≤ q) = true := by simp; omega
          clear h4 hbig hn4
          go_wp2_with fail
          go_ret
          exact ⟨ret_int HV.out.symm, rfl⟩
        · have HV : Hid (sgnR l = (q : Int)) := hide (by rw [HSG.out, if_neg (fun h => hbig h.2), u1])
          have j1 : ¬ (2147483648 : Int) ≤ (q : Int) := by omega
          have j2 : decide ((2147483648 : Int) ≤ (q : Int)) = false := by simp; omega
          have j3 : decide (2147483648 ≤ q) = false := by simp; omega
          clear h4 hbig hn4
          go_wp2_with fail
          go_ret
          exact ⟨ret_int HV.out.symm, rfl⟩
      · have d0 : ((n : Int) == 4) = false := by rw [beq_eq_false_iff_ne]; omega
        have HV : Hid (sgnR l = IntKind.i64.wrap (q : Int)) := hide (by rw [HSG.out, if_neg (fun h => h4 h.1)])
        clear h4 hn4
        go_wp2_with fail
        go_ret
        exact ⟨ret_int (by rw [HV.out]; first | (rw [IntKind.wrap_i64, wrap64]; done) | (symm; exact IntKind.wrap_i64 _)), rfl⟩
end Go.Proofs.Ytlonhkjplijlcaa
namespace Go.Proofs.Ytlonhkjplijlcaa
end Go.Proofs.Ytlonhkjplijlcaa
