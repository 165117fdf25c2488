/- Several texts in one: Samples in plain words: what is wrong with them. Plain; Walks: kit.Out, within. Conditions as stated; A world in which one block and one row have turned, and new blocks are there. No condition; An append onto an own row, met in a region that draws its order; a fresh cell that reads as a list. Conditions as stated; Walk: CheckSamples (program). Conditions as stated. -/
import Derived.Test.YtlonhkjplijlcaaMwf00
import Derived.Test.YtlonhkjplijlcaaProg
import Derived.Deep.RegionHeld3
import Derived.Deep.RegionWith
import Derived.StillTailTactics
import Derived.Handy
import Derived.Lib.MinMax
namespace Go.Proofs.Ytlonhkjplijlcaa
/-- A sample. -/
structure Smp where
  time : Int
  step : Int
  shift : Int
  size : Int
  key : Bool
deriving Inhabited
def dS : Smp := ⟨0, 0, 0, 0, false⟩
def noT (n : Int) : Bool := decide (n < -1000000000000000 ∨ 1000000000000000 < n)
/-- A number of a sample is out of its range. -/
def badS (x : Smp) : Bool := noT x.time || decide (x.step < 0 ∨ 1000000000 < x.step) || decide (x.shift < -1000000000 ∨ 1000000000 < x.shift) || decide (x.size < 0 ∨ 100000 < x.size)
/-- The fault of a sample behind others. -/
def smpEl (l : List Smp) (i : Nat) : Int :=
  if badS (l.getD i dS) = true then 1 else if 0 < i ∧ (l.getD i dS).time ≠ (l.getD (i - 1) dS).time + (l.getD (i - 1) dS).step then 8 else 0
def endS (l : List Smp) : Int := (l.getD (l.length - 1) dS).time + (l.getD (l.length - 1) dS).step
/-- The fault of samples. -/
def smpF (l : List Smp) : Int :=
  if 5000 < l.length then 2 else if firstF (smpEl l) l.length ≠ 0 then firstF (smpEl l) l.length else if 0 < l.length ∧ noT (endS l) = true then 1 else 0
theorem badS_ok {x : Smp} (h : badS x = false) : (-1000000000000000 ≤ x.time ∧ x.time ≤ 1000000000000000) ∧ (0 ≤ x.step ∧ x.step ≤ 1000000000) ∧ (-1000000000 ≤ x.shift ∧ x.shift ≤ 1000000000) ∧ (0 ≤ x.size ∧ x.size ≤ 100000) := by
  unfold badS noT at h
  simp only [Bool.or_eq_false_iff, decide_eq_false_iff_not] at h
  omega
theorem smpEl_zero {l : List Smp} {i : Nat} (h : smpEl l i = 0) : badS (l.getD i dS) = false ∧ (0 < i → (l.getD i dS).time = (l.getD (i - 1) dS).time + (l.getD (i - 1) dS).step) := by
  unfold smpEl at h
  cases hb : badS (l.getD i dS) with
  | true => rw [hb, if_pos rfl] at h; omega
  | false =>
    refine ⟨rfl, fun hi => Classical.byContradiction fun hc => ?_⟩
    rw [hb, if_neg (by simp), if_pos ⟨hi, hc⟩] at h
    omega
theorem smpF_zero {l : List Smp} (h : smpF l = 0) : l.length ≤ 5000 ∧ (∀ i, i < l.length → smpEl l i = 0) ∧ (0 < l.length → noT (endS l) = false) := by
  unfold smpF at h
  by_cases h1 : 5000 < l.length
  · rw [if_pos h1] at h; omega
  rw [if_neg h1] at h
  by_cases h2 : firstF (smpEl l) l.length ≠ 0
  · rw [if_pos h2] at h; exact absurd h h2
  rw [if_neg h2] at h
  refine ⟨by omega, firstF_all (by omega), fun hl => ?_⟩
  cases hb : noT (endS l) with
  | false => rfl
  | true => rw [if_pos ⟨hl, hb⟩] at h; omega
theorem smpF_of {l : List Smp} (h1 : l.length ≤ 5000) (h2 : ∀ i, i < l.length → smpEl l i = 0) (h3 : 0 < l.length → noT (endS l) = false) : smpF l = 0 := by
  unfold smpF
  rw [if_neg (by omega), if_neg (by have := firstF_zero h2; omega), if_neg]
  intro h
  rw [h3 h.1] at h
  cases h.2
end Go.Proofs.Ytlonhkjplijlcaa
namespace Go.Proofs.Ytlonhkjplijlcaa
open Go.RowKit

theorem out_no {n lo hi : Int} (h : lo ≤ n ∧ n ≤ hi) (w : World) :
    Calls Try.prog 15 #[.int .i64 n, .int .i64 lo, .int .i64 hi] w fun e w' => e = .returned (.bool false) ∧ w = w' := by
  obtain ⟨h1, h2⟩ := h
  go_enter Try.func15, Try.ntmps15
  go_wp2
  go_ret
  exact ⟨ret_bool (by first | rfl | (simp; omega)), rfl⟩
theorem out_yes {n lo hi : Int} (h : n < lo ∨ hi < n) (w : World) :
    Calls Try.prog 15 #[.int .i64 n, .int .i64 lo, .int .i64 hi] w fun e w' => e = .returned (.bool true) ∧ w = w' := by
  by_cases h1 : n < lo
  · clear h
    go_enter Try.func15, Try.ntmps15
    go_wp2
    go_ret
    exact ⟨ret_bool (by first | rfl | (simp; omega)), rfl⟩
  · have h2 : hi < n := by omega
    clear h
    go_enter Try.func15, Try.ntmps15
    go_wp2
    go_ret
    exact ⟨ret_bool (by first | rfl | (simp; omega)), rfl⟩
theorem within_yes {n lo hi : Int} (h : lo ≤ n ∧ n ≤ hi) (w : World) :
    Calls Try.prog 22 #[.int .i64 n, .int .i64 lo, .int .i64 hi] w fun e w' => e = .returned (.bool true) ∧ w = w' := by
  obtain ⟨h1, h2⟩ := h
  go_enter Try.func22, Try.ntmps22
  go_wp2
  go_ret
  exact ⟨ret_bool (by first | rfl | (simp; omega)), rfl⟩
theorem within_no {n lo hi : Int} (h : n < lo ∨ hi < n) (w : World) :
    Calls Try.prog 22 #[.int .i64 n, .int .i64 lo, .int .i64 hi] w fun e w' => e = .returned (.bool false) ∧ w = w' := by
  by_cases h1 : n < lo
  · clear h
    go_enter Try.func22, Try.ntmps22
    go_wp2
    go_ret
    exact ⟨ret_bool (by first | rfl | (simp; omega)), rfl⟩
  · have h2 : hi < n := by omega
    clear h
    go_enter Try.func22, Try.ntmps22
    go_wp2
    go_ret
    exact ⟨ret_bool (by first | rfl | (simp; omega)), rfl⟩
/-- Numbers, their cells by their place. -/
theorem At.num {w : World} {b off n c : Nat} {l : List Int} (h : At w 1 e64 (some ⟨b, off, none⟩) n c l) {k : Nat} (hk : k < n) : w.cell? ⟨b, off + k, none⟩ = some (.int .i64 (l.getD k 0)) := by
  have hl := h.len
  obtain ⟨b', off', e, hc⟩ := h.cells k _ (List.getElem?_eq_getElem (by omega))
  injection e with e
  injection e with e1 e2
  subst e1 e2
  have := hc 0 _ rfl
  rw [show l.getD k 0 = l[k]'(by omega) by simp [List.getD, show k < l.length by omega]]
  simpa using this
end Go.Proofs.Ytlonhkjplijlcaa
namespace Go.Proofs.Ytlonhkjplijlcaa
open Go.RowKit

/-- The world w' is w but for block o, one more block, and new ones. -/
structure Tw (w w' : World) (o : Nat) (row : Option Nat) : Prop where
  os : w'.os = w.os
  tape : w'.tape = w.tape
  output : w'.output = w.output
  size : w.heap.size ≤ w'.heap.size
  block : ∀ k, k < w.heap.size → k ≠ o → some k ≠ row → w'.heap[k]? = w.heap[k]?
theorem Tw.of_ext {w w' : World} (h : Ext w w') (o : Nat) (row : Option Nat) : Tw w w' o row := ⟨h.os, h.tape, h.output, h.size, fun k hk _ _ => h.block k hk⟩
theorem Tw.of_grown {w w' : World} {o : Nat} {row : Option Nat} (h : w.grownBy w' row) : Tw w w' o row := ⟨h.os, h.tape, h.output, h.size, fun k hk _ hr => h.block k hk hr⟩
theorem Tw.more {w w' : World} {o : Nat} (h : Tw w w' o none) (row : Option Nat) : Tw w w' o row := ⟨h.os, h.tape, h.output, h.size, fun k hk ho _ => h.block k hk ho (by simp)⟩
theorem Tw.refl (w : World) (o : Nat) (row : Option Nat) : Tw w w o row := Tw.of_ext (Ext.refl w) o row
theorem Tw.set_ (w : World) (o i : Nat) (v : Value) (row : Option Nat) : Tw w (w.setCell ⟨o, i, none⟩ v) o row :=
  ⟨rfl, rfl, rfl, by simp [World.setCell], fun k _ hk _ => Below.heap_setCell w ⟨o, i, none⟩ v k (by simpa using hk)⟩
theorem Tw.trans {a b c : World} {o : Nat} {row : Option Nat} (h : Tw a b o row) (k : Tw b c o row) : Tw a c o row :=
  ⟨k.os.trans h.os, k.tape.trans h.tape, k.output.trans h.output, Nat.le_trans h.size k.size, fun j hj ho hr => (k.block j (Nat.lt_of_lt_of_le hj h.size) ho hr).trans (h.block j hj ho hr)⟩
theorem Tw.drew {w w' : World} {o : Nat} {row : Option Nat} (h : Tw w w' o row) : Tw w w'.drew o row := ⟨h.os, h.tape, h.output, h.size, h.block⟩
theorem Tw.drewN {w w' : World} {o : Nat} {row : Option Nat} (h : Tw w w' o row) (n : Nat) : Tw w (w'.drewN n) o row := ⟨h.os, h.tape, h.output, h.size, h.block⟩
theorem Tw.blk {w w' : World} {o g : Nat} {row : Option Nat} {t : TypeId} {cs : Array Value} (h : Tw w w' o row) (hb : Blk w g t cs) (ho : g ≠ o) (hr : some g ≠ row) : Blk w' g t cs := (h.block g hb.lt ho hr).trans hb
theorem Tw.below {w w' : World} {o : Nat} {row : Option Nat} {C : Nat} (h : Tw w w' o row) (hC : C ≤ w.heap.size) (ho : C ≤ o) (hr : ∀ g, row = some g → C ≤ g) : Below C w w' :=
  ⟨h.os, h.tape, h.output, h.size, fun k hk => h.block k (by omega) (by omega) (fun e => by have := hr k e.symm; omega)⟩
theorem Own.tw {α : Type} {w w' : World} {base : Nat} {t : TypeId} {sz : Nat} {enc : α → List Value} {v : Value} {xs : List α} {o : Nat} {row : Option Nat} (h : Own w base t sz enc v xs) (hF : Tw w w' o row)
    (h1 : v.ownBlock ≠ some o) (h2 : ∀ g, v.ownBlock = some g → row ≠ some g) : Own w' base t sz enc v xs := by
  refine ⟨h.1, ?_⟩
  have hlt := h.lt
  rcases h.2 with h3 | ⟨g, cap, cur, hv, hb, hg, r⟩
  · exact .inl h3
  · have hvg : v.ownBlock = some g := by rw [hv]; rfl
    have hgl := (hlt g hvg).2
    exact .inr ⟨g, cap, cur, hv, hb, (hF.block g hgl (fun e => h1 (by rw [hvg, e])) (fun e => h2 g hvg e.symm)).trans hg, r⟩
theorem At.tw {α : Type} {w w' : World} {sz : Nat} {enc : α → List Value} {A : Option Addr} {n c : Nat} {xs : List α} {o : Nat} {row : Option Nat} (h : At w sz enc A n c xs) (hF : Tw w w' o row) (hne : ∀ a, A = some a → a.block ≠ o ∧ some a.block ≠ row) : At w' sz enc A n c xs :=
  ⟨h.len, h.le, h.max, h.none_, fun k x hx => by
    obtain ⟨b, off, e, hc⟩ := h.cells k x hx
    obtain ⟨h1, h2⟩ := hne _ e
    refine ⟨b, off, e, fun j u hu => ?_⟩
    have h3 := hc j u hu
    have h4 := hF.block b (by have := cell_lt h3; simpa using this) h1 h2
    unfold World.cell? at h3 ⊢
    simp only at h3 ⊢
    rw [h4]
    exact h3⟩
theorem grown_set (w : World) (g i : Nat) (v : Value) : w.grownBy (w.setCell ⟨g, i, none⟩ v) (some g) :=
  ⟨rfl, rfl, rfl, by simp [World.setCell], fun k _ hk => Below.heap_setCell _ _ _ k (fun h => hk (by rw [h]))⟩
theorem gen_bod {P : Program} {f : Func} {Q : Ending → World → Prop} {x : Exit} {a : Act} {W : World} (h : ∀ W', W' = W → bodyPost P f Q x a W') : bodyPost P f Q x a W := h W rfl
theorem gen_wpC {P : Program} {c : Code} {Q : Exit → Act → World → Prop} {a : Act} {W : World} (h : ∀ W', W' = W → Code.wp P c Q a W') : Code.wp P c Q a W := h W rfl
theorem gen_the {K : Act → World → Prop} {Q : Exit → Act → World → Prop} {e : Exit} {a : Act} {w : World} (h : ∀ W, W = w → Exit.then K Q e a W) : Exit.then K Q e a w := h w rfl
theorem gen_blo {n : Nat} {Q : Exit → Act → World → Prop} {e : Exit} {a : Act} {w : World} (h : ∀ W, W = w → Exit.inBlock n Q e a W) : Exit.inBlock n Q e a w := h w rfl
end Go.Proofs.Ytlonhkjplijlcaa
namespace Go.Proofs.Ytlonhkjplijlcaa
open Go.RowKit

theorem step_append_at {P : Program} {w : World} {α : Type} {enc : α → List Value} {size : Nat} {ops : Array Oper} {o : Oper} {a : Act} {K : Act → World → Prop} {Q : Exit → Act → World → Prop} {E : Prop} (hgd : o.guard = none) (s x : Operand) (t : TypeId)
    (ho : o.op = .call { callee := .builtin .append, args := #[s, x], argTypes := #[t, t] })
    (base : Nat) (e : TypeId) (i : TypeInfo) (z : Value) (bytes : Nat) (ht : P.underlying t = some (.slice e)) (hi : P.info? e = some i) (hz : i.zero = some z)
    (hsize : i.size = size) (hby : i.bytes = bytes) (hzs : z.cells.size = size) (hsz : 0 < size) (henc : ∀ x, (enc x).length = size) (h1 : ∀ x, ∀ u ∈ enc x, u.oneCell' = true)
    (v : Value) (xs : List α) (hs : a.eval s = v) (hown : Own w base e size enc v xs) (A : Option Addr) (m c : Nat) (ys : List α) (hx : a.eval x = .slice A m c) (hr : At w size enc A m c ys)
    (h63 : xs.length + m ≤ maxLen) (hbytes : (xs.length + m) * bytes ≤ 140737488355328) (hbase : base ≤ w.heap.size)
    (h : ∀ v' w', Own w' base e size enc v' (xs ++ ys) → w.grownBy w' v.ownBlock → (v' = .slice none 0 0 ↔ v = .slice none 0 0 ∧ m = 0) → (v'.ownBlock = v.ownBlock ∨ v'.ownBlock = some w.heap.size) → K (a.put o.dst v') w') :
    if Region.wanted o (yielded ops a.tmps) = true then Oper.wp P o a w K Q else E := by
  have hw : Region.wanted o (yielded ops a.tmps) = true := by simp [Region.wanted, hgd]
  rw [if_pos hw]
  exact wp_append_at w s x t ho base e i z bytes ht hi hz hsize hby hzs hsz henc h1 v xs hs hown A m c ys hx hr h63 hbytes hbase h
theorem len_e64 (x : Int) : (e64 x).length = 1 := rfl
theorem one_e64 (x : Int) : ∀ u ∈ e64 x, u.oneCell' = true := by intro u hu; simp at hu; subst hu; rfl
theorem At.new1 {α : Type} {enc : α → List Value} (w : World) (x : α) (u : Value) (hu : enc x = [u]) (t : TypeId) : At (w.alloc (.cells #[u] t)) 1 enc (some ⟨w.heap.size, 0, none⟩) 1 1 [x] :=
  ⟨rfl, Nat.le_refl _, by unfold maxLen; omega, fun h => (by cases h), fun k z hz => ⟨_, _, rfl, fun j v hv => by
    match k, hz with
    | 0, hz =>
      simp at hz; subst hz
      rw [hu] at hv
      match j, hv with
      | 0, hv =>
        simp at hv; subst hv
        exact (Blk.new w _ _).cell 0
      | j + 1, hv => simp at hv
    | k + 1, hz => simp at hz⟩⟩
/-- A cell of an element. -/
theorem At.cellK {α : Type} {w : World} {sz : Nat} {enc : α → List Value} {b off n c : Nat} {xs : List α} (h : At w sz enc (some ⟨b, off, none⟩) n c xs) {k : Nat} (hk : k < n) (d : α) (j : Nat) (u : Value) (hu : (enc (xs.getD k d))[j]? = some u) :
    w.cell? ⟨b, off + k * sz + j, none⟩ = some u := by
  have hl := h.len
  obtain ⟨b', off', e, hc⟩ := h.cells k _ (List.getElem?_eq_getElem (by omega))
  injection e with e
  injection e with e1 e2
  subst e1 e2
  refine hc j u ?_
  rw [show xs.getD k d = xs[k]'(by omega) by simp [List.getD, show k < xs.length by omega]] at hu
  exact hu
end Go.Proofs.Ytlonhkjplijlcaa
namespace Go.Proofs.Ytlonhkjplijlcaa
open Go.RowKit
abbrev eSm (x : Smp) : List Value := [.int .i64 x.time, .int .i64 x.step, .int .i64 x.shift, .int .i64 x.size, .bool x.key]
theorem len_eSm (x : Smp) : (eSm x).length = 5 := rfl
theorem one_eSm (x : Smp) : ∀ u ∈ eSm x, u.oneCell' = true := by
  intro u hu
  simp at hu
  rcases hu with rfl | rfl | rfl | rfl | rfl <;> rfl
theorem notime_no {n : Int} (h : noT n = false) (w : World) : Calls Try.prog 82 #[.int .i64 n] w fun e w' => e = .returned (.bool false) ∧ w = w' := by
  have h : -1000000000000000 ≤ n ∧ n ≤ 1000000000000000 := by unfold noT at h; simp only [decide_eq_false_iff_not] at h; omega
  obtain ⟨h1, h2⟩ := h
  go_enter Try.func82, Try.ntmps82
  go_wp2_with (first | ((go_at_call 15; with_reducible refine (out_no ⟨by omega, by omega⟩ _).mono ?_); rintro e w' ⟨rfl, rfl⟩) | ((go_at_call 15; with_reducible refine (out_yes (by omega) _).mono ?_); rintro e w' ⟨rfl, rfl⟩))
  go_ret
  exact ⟨ret_bool (by first | rfl | (simp; omega)), rfl⟩
theorem notime_yes {n : Int} (h : noT n = true) (w : World) : Calls Try.prog 82 #[.int .i64 n] w fun e w' => e = .returned (.bool true) ∧ w = w' := by
  have h : n < -1000000000000000 ∨ 1000000000000000 < n := by unfold noT at h; simpa using h
  by_cases h1 : n < -1000000000000000
  · clear h
    go_enter Try.func82, Try.ntmps82
    go_wp2_with (first | ((go_at_call 15; with_reducible refine (out_no ⟨by omega, by omega⟩ _).mono ?_); rintro e w' ⟨rfl, rfl⟩) | ((go_at_call 15; with_reducible refine (out_yes (by omega) _).mono ?_); rintro e w' ⟨rfl, rfl⟩))
    go_ret
    exact ⟨ret_bool (by first | rfl | (simp; omega)), rfl⟩
  · have h2 : 1000000000000000 < n := by omega
    have h3 : -1000000000000000 ≤ n := by omega
    clear h h1
    go_enter Try.func82, Try.ntmps82
    go_wp2_with (first | ((go_at_call 15; with_reducible refine (out_no ⟨by omega, by omega⟩ _).mono ?_); rintro e w' ⟨rfl, rfl⟩) | ((go_at_call 15; with_reducible refine (out_yes (by omega) _).mono ?_); rintro e w' ⟨rfl, rfl⟩))
    go_ret
    exact ⟨ret_bool (by first | rfl | (simp; omega)), rfl⟩
theorem istime_yes {n : Int} (h : noT n = false) (w : World) : Calls Try.prog 91 #[.int .i64 n] w fun e w' => e = .returned (.bool true) ∧ w = w' := by
  have h : -1000000000000000 ≤ n ∧ n ≤ 1000000000000000 := by unfold noT at h; simp only [decide_eq_false_iff_not] at h; omega
  obtain ⟨h1, h2⟩ := h
  go_enter Try.func91, Try.ntmps91
  go_wp2_with (first | ((go_at_call 15; with_reducible refine (out_no ⟨by omega, by omega⟩ _).mono ?_); rintro e w' ⟨rfl, rfl⟩) | ((go_at_call 15; with_reducible refine (out_yes (by omega) _).mono ?_); rintro e w' ⟨rfl, rfl⟩))
  go_ret
  exact ⟨ret_bool (by first | rfl | (simp; omega)), rfl⟩
theorem istime_no {n : Int} (h : noT n = true) (w : World) : Calls Try.prog 91 #[.int .i64 n] w fun e w' => e = .returned (.bool false) ∧ w = w' := by
  have h : n < -1000000000000000 ∨ 1000000000000000 < n := by unfold noT at h; simpa using h
  by_cases h1 : n < -1000000000000000
  · clear h
    go_enter Try.func91, Try.ntmps91
    go_wp2_with (first | ((go_at_call 15; with_reducible refine (out_no ⟨by omega, by omega⟩ _).mono ?_); rintro e w' ⟨rfl, rfl⟩) | ((go_at_call 15; with_reducible refine (out_yes (by omega) _).mono ?_); rintro e w' ⟨rfl, rfl⟩))
    go_ret
    exact ⟨ret_bool (by first | rfl | (simp; omega)), rfl⟩
  · have h2 : 1000000000000000 < n := by omega
    have h3 : -1000000000000000 ≤ n := by omega
    clear h h1
    go_enter Try.func91, Try.ntmps91
    go_wp2_with (first | ((go_at_call 15; with_reducible refine (out_no ⟨by omega, by omega⟩ _).mono ?_); rintro e w' ⟨rfl, rfl⟩) | ((go_at_call 15; with_reducible refine (out_yes (by omega) _).mono ?_); rintro e w' ⟨rfl, rfl⟩))
    go_ret
    exact ⟨ret_bool (by first | rfl | (simp; omega)), rfl⟩
set_option linter.unusedVariables false in
set_option maxRecDepth 100000 in
set_option maxHeartbeats 8000000 in
theorem keySamples_any {A : Option Addr} {n c : Nat} {l : List Smp} {w : World} (h : At w 5 eSm A n c l) :
    Calls Try.prog 67 #[.slice A n c] w fun e w' => e = .returned (.int .i64 (smpF l)) ∧ Ext w w' := by
  have hb := h.bound
  have hl := h.len
  have H := hide h
  by_cases h5 : 5000 < n
  · have HF : Hid (smpF l = 2) := hide (by unfold smpF; rw [if_pos (by omega)])
    clear hl h
    go_enter Try.func67, Try.ntmps67
    go_wp2_with fail
    go_ret
    exact ⟨ret_int HF.out.symm, Ext.refl _⟩
  have h5' : n ≤ 5000 := by omega
  have HL := hide hl
  have HB : Hid (∀ i, i < n → (∀ j, j < i → smpEl l j = 0) → smpEl l i ≠ 0 → smpF l = smpEl l i) := hide (fun i hi ha hb => by
    have := firstF_at ha hb (n := l.length) (by omega)
    unfold smpF; rw [if_neg (by omega), if_pos (by omega), this])
  have HZ : Hid ((∀ j, j < n → smpEl l j = 0) → smpF l = if 0 < n ∧ noT (endS l) = true then 1 else 0) := hide (fun ha => by
    have := firstF_zero (g := smpEl l) (n := l.length) (fun j hj => ha j (by omega))
    unfold smpF; rw [if_neg (by omega), if_neg (by omega), hl])
  clear hl h h5
  go_enter Try.func67, Try.ntmps67
  go_wp2_with fail
  go_loopw [11] (fun ri wr => ∃ k : Nat, k ≤ n ∧ ri = .int .i64 k ∧ Hid (∀ j, j < k → smpEl l j = 0) ∧ Hid (Ext w wr)) (fun ri _ => n - (intOf ri).toNat)
  case atStart => exact ⟨0, by omega, rfl, hide (fun j hj => by omega), hide (Ext.refl _)⟩
  case round =>
    obtain ⟨k, hk, rfl, HA, HX⟩ := hrel
    by_cases hlt : k < n
    · obtain ⟨b, off, rfl, _⟩ := H.out.addr (by omega)
      have hat := H.out.ext HX.out
      have a0 := hat.cellK hlt dS 0 _ rfl
      have a1 := hat.cellK hlt dS 1 _ rfl
      have a2 := hat.cellK hlt dS 2 _ rfl
      have a3 := hat.cellK hlt dS 3 _ rfl
      have a4 := hat.cellK hlt dS 4 _ rfl
      rw [Nat.add_zero] at a0
      have hel : smpEl l k = if badS (l.getD k dS) = true then 1 else if 0 < k ∧ (l.getD k dS).time ≠ (l.getD (k - 1) dS).time + (l.getD (k - 1) dS).step then 8 else 0 := rfl
      have hbs : badS (l.getD k dS) = (noT (l.getD k dS).time || decide ((l.getD k dS).step < 0 ∨ 1000000000 < (l.getD k dS).step) || decide ((l.getD k dS).shift < -1000000000 ∨ 1000000000 < (l.getD k dS).shift) || decide ((l.getD k dS).size < 0 ∨ 100000 < (l.getD k dS).size)) := rfl
      have HR : Hid (smpEl l k ≠ 0 → smpF l = smpEl l k) := hide (HB.out k hlt HA.out)
      have HG : Hid (smpEl l k = 0 → ∀ j, j < k + 1 → smpEl l j = 0) := hide (fun h0 j hj => by
        rcases Nat.lt_succ_iff_lt_or_eq.1 hj with h | h
        · exact HA.out j h
        · rw [h]; exact h0)
      have hp0 : 0 < k → wr.cell? ⟨b, off + (k - 1) * 5, none⟩ = some (.int .i64 (l.getD (k - 1) dS).time) := fun h0 => by have := hat.cellK (k := k - 1) (by omega) dS 0 _ rfl; rwa [Nat.add_zero] at this
      have hp1 : 0 < k → wr.cell? ⟨b, off + (k - 1) * 5 + 1, none⟩ = some (.int .i64 (l.getD (k - 1) dS).step) := fun h0 => hat.cellK (k := k - 1) (by omega) dS 1 _ rfl
      have hpb : 0 < k → badS (l.getD (k - 1) dS) = false := fun h0 => (smpEl_zero (HA.out (k - 1) (by omega))).1
      have hpb2 : 0 < k → (-1000000000000000 ≤ (l.getD (k - 1) dS).time ∧ (l.getD (k - 1) dS).time ≤ 1000000000000000) ∧ (0 ≤ (l.getD (k - 1) dS).step ∧ (l.getD (k - 1) dS).step ≤ 1000000000) := fun h0 => ⟨(badS_ok (hpb h0)).1, (badS_ok (hpb h0)).2.1⟩
      clear hpb hat
      generalize smpEl l k = fl at *
      generalize badS (l.getD k dS) = bd at *
      generalize (l.getD k dS).time = tm at *
      generalize (l.getD k dS).step = st at *
      generalize (l.getD k dS).shift = sh at *
      generalize (l.getD k dS).size = sz at *
      generalize (l.getD k dS).key = ky at *
      generalize (l.getD (k - 1) dS).time = pt at *
      generalize (l.getD (k - 1) dS).step = ps at *
      have i0 : (k : Int) < (n : Int) := by omega
      have HEL := hide hel
      have HBS := hide hbs
      clear hel hbs
      by_cases g1 : noT tm = true
      · have HT := hide (notime_yes g1)
        have HF : Hid (smpF l = 1) := hide (by have h1 : fl = 1 := (by rw [HEL.out, HBS.out, if_pos (by rw [g1]; rfl)]); rw [HR.out (by omega), h1])
        clear hp0 hp1 hpb2 HR HG HEL HBS g1
        go_wp2_with (first | ((go_at_call 82; with_reducible refine (HT.out _).mono ?_); rintro e w' ⟨rfl, rfl⟩) | ((go_at_call 15; with_reducible refine (out_no ⟨by omega, by omega⟩ _).mono ?_); rintro e w' ⟨rfl, rfl⟩) | ((go_at_call 15; with_reducible refine (out_yes (by omega) _).mono ?_); rintro e w' ⟨rfl, rfl⟩))
        go_ret
        exact ⟨ret_int HF.out.symm, Ext.trans HX.out (by repeat' (first | (with_reducible exact Below.refl _ _) | (with_reducible assumption) | (with_reducible refine below_drewN ?_ _) | (with_reducible refine Below.drew ?_) | (with_reducible refine ext_alloc ?_ _) | (with_reducible refine Below.setCell ?_ ?_ _) | go_size))⟩
      have g1' : noT tm = false := by simpa using g1
      have HT := hide (notime_no g1')
      have g1b : -1000000000000000 ≤ tm ∧ tm ≤ 1000000000000000 := by unfold noT at g1'; simp only [decide_eq_false_iff_not] at g1'; omega
      clear g1
      by_cases g2 : st < 0 ∨ 1000000000 < st
      · have HF : Hid (smpF l = 1) := hide (by have h1 : fl = 1 := (by rw [HEL.out, HBS.out, if_pos (by simp [g2])]); rw [HR.out (by omega), h1])
        clear hp0 hp1 hpb2 HR HG HEL HBS g1'
        go_wp2_with (first | ((go_at_call 82; with_reducible refine (HT.out _).mono ?_); rintro e w' ⟨rfl, rfl⟩) | ((go_at_call 15; with_reducible refine (out_no ⟨by omega, by omega⟩ _).mono ?_); rintro e w' ⟨rfl, rfl⟩) | ((go_at_call 15; with_reducible refine (out_yes (by omega) _).mono ?_); rintro e w' ⟨rfl, rfl⟩))
        go_ret
        exact ⟨ret_int HF.out.symm, Ext.trans HX.out (by repeat' (first | (with_reducible exact Below.refl _ _) | (with_reducible assumption) | (with_reducible refine below_drewN ?_ _) | (with_reducible refine Below.drew ?_) | (with_reducible refine ext_alloc ?_ _) | (with_reducible refine Below.setCell ?_ ?_ _) | go_size))⟩
      have g2' : 0 ≤ st ∧ st ≤ 1000000000 := by omega
      by_cases g3 : sh < -1000000000 ∨ 1000000000 < sh
      · have HF : Hid (smpF l = 1) := hide (by have h1 : fl = 1 := (by rw [HEL.out, HBS.out, if_pos (by simp [g3])]); rw [HR.out (by omega), h1])
        clear hp0 hp1 hpb2 HR HG HEL HBS g1'
        go_wp2_with (first | ((go_at_call 82; with_reducible refine (HT.out _).mono ?_); rintro e w' ⟨rfl, rfl⟩) | ((go_at_call 15; with_reducible refine (out_no ⟨by omega, by omega⟩ _).mono ?_); rintro e w' ⟨rfl, rfl⟩) | ((go_at_call 15; with_reducible refine (out_yes (by omega) _).mono ?_); rintro e w' ⟨rfl, rfl⟩))
        go_ret
        exact ⟨ret_int HF.out.symm, Ext.trans HX.out (by repeat' (first | (with_reducible exact Below.refl _ _) | (with_reducible assumption) | (with_reducible refine below_drewN ?_ _) | (with_reducible refine Below.drew ?_) | (with_reducible refine ext_alloc ?_ _) | (with_reducible refine Below.setCell ?_ ?_ _) | go_size))⟩
      have g3' : -1000000000 ≤ sh ∧ sh ≤ 1000000000 := by omega
      by_cases g4 : sz < 0 ∨ 100000 < sz
      · have HF : Hid (smpF l = 1) := hide (by have h1 : fl = 1 := (by rw [HEL.out, HBS.out, if_pos (by simp [g4])]); rw [HR.out (by omega), h1])
        clear hp0 hp1 hpb2 HR HG HEL HBS g1'
        go_wp2_with (first | ((go_at_call 82; with_reducible refine (HT.out _).mono ?_); rintro e w' ⟨rfl, rfl⟩) | ((go_at_call 15; with_reducible refine (out_no ⟨by omega, by omega⟩ _).mono ?_); rintro e w' ⟨rfl, rfl⟩) | ((go_at_call 15; with_reducible refine (out_yes (by omega) _).mono ?_); rintro e w' ⟨rfl, rfl⟩))
        go_ret
        exact ⟨ret_int HF.out.symm, Ext.trans HX.out (by repeat' (first | (with_reducible exact Below.refl _ _) | (with_reducible assumption) | (with_reducible refine below_drewN ?_ _) | (with_reducible refine Below.drew ?_) | (with_reducible refine ext_alloc ?_ _) | (with_reducible refine Below.setCell ?_ ?_ _) | go_size))⟩
      have g4' : 0 ≤ sz ∧ sz ≤ 100000 := by omega
      have hbd : bd = false := by rw [HBS.out, g1']; simp; omega
      have hel := HEL.out
      rw [hbd, if_neg (by simp)] at hel
      clear hbd g1' g2 g3 g4 HEL HBS
      rcases Nat.eq_zero_or_pos k with hk0 | hk0
      · rw [if_neg (by omega)] at hel
        have HA2 := hide (HG.out hel)
        have d0 : decide ((0 : Int) < (k : Int)) = false := by simp; omega
        have d1 : decide (0 < k) = false := by simp; omega
        clear hel HR HG hp0 hp1 hpb2 hk0
        go_wp2_with (first | ((go_at_call 82; with_reducible refine (HT.out _).mono ?_); rintro e w' ⟨rfl, rfl⟩) | ((go_at_call 15; with_reducible refine (out_no ⟨by omega, by omega⟩ _).mono ?_); rintro e w' ⟨rfl, rfl⟩) | ((go_at_call 15; with_reducible refine (out_yes (by omega) _).mono ?_); rintro e w' ⟨rfl, rfl⟩))
        go_quiet (fail)
        go_wp2_with fail
        exact ⟨⟨k + 1, by omega, by go_num, HA2, hide (Ext.trans HX.out (by repeat' (first | (with_reducible exact Below.refl _ _) | (with_reducible assumption) | (with_reducible refine below_drewN ?_ _) | (with_reducible refine Below.drew ?_) | (with_reducible refine ext_alloc ?_ _) | (with_reducible refine Below.setCell ?_ ?_ _) | go_size)))⟩, by simp [intOf]; omega⟩
      · have d0 : decide ((0 : Int) < (k : Int)) = true := by simp; omega
        have i2 : IntKind.i64.wrap ((k : Int) - 1) = (k : Int) - 1 := by rw [IntKind.wrap_i64]; omega
        have i3 : ((k : Int) - 1).toNat = k - 1 := by omega
        have i4 : 0 ≤ (k : Int) - 1 := by omega
        have i5 : (k : Int) - 1 < (n : Int) := by omega
        have i6 : 1 ≤ (k : Int) := by omega
        have i7 : (k : Int) ≤ (n : Int) := by omega
        obtain ⟨⟨q1, q2⟩, q3, q4⟩ := hpb2 hk0
        have i8 : IntKind.i64.wrap (pt + ps) = pt + ps := by rw [IntKind.wrap_i64]; omega
        have hq0 := (Ext.alloc wr (.cells #[.int .i64 tm, .int .i64 st, .int .i64 sh, .int .i64 sz, .bool ky] 55)).cell (hp0 hk0)
        have hq1 := (Ext.alloc wr (.cells #[.int .i64 tm, .int .i64 st, .int .i64 sh, .int .i64 sz, .bool ky] 55)).cell (hp1 hk0)
        clear hp0 hp1 hpb2
        by_cases hC : tm = pt + ps
        · rw [if_neg (fun h => h.2 hC)] at hel
          have HA2 := hide (HG.out hel)
          have d2 : (tm != pt + ps) = false := by simp [hC]
          have HC := hide hC
          clear hel HR HG hC
          go_wp2_with (first | ((go_at_call 82; with_reducible refine (HT.out _).mono ?_); rintro e w' ⟨rfl, rfl⟩) | ((go_at_call 15; with_reducible refine (out_no ⟨by omega, by omega⟩ _).mono ?_); rintro e w' ⟨rfl, rfl⟩) | ((go_at_call 15; with_reducible refine (out_yes (by omega) _).mono ?_); rintro e w' ⟨rfl, rfl⟩))
          go_quiet (fail)
          go_wp2_with fail
          exact ⟨⟨k + 1, by omega, by go_num, HA2, hide (Ext.trans HX.out (by repeat' (first | (with_reducible exact Below.refl _ _) | (with_reducible assumption) | (with_reducible refine below_drewN ?_ _) | (with_reducible refine Below.drew ?_) | (with_reducible refine ext_alloc ?_ _) | (with_reducible refine Below.setCell ?_ ?_ _) | go_size)))⟩, by simp [intOf]; omega⟩
        · rw [if_pos ⟨hk0, hC⟩] at hel
          have HF : Hid (smpF l = 8) := hide (by rw [HR.out (by omega), hel])
          have d2 : (tm != pt + ps) = true := by simp [hC]
          clear hel HR HG hC
          go_wp2_with (first | ((go_at_call 82; with_reducible refine (HT.out _).mono ?_); rintro e w' ⟨rfl, rfl⟩) | ((go_at_call 15; with_reducible refine (out_no ⟨by omega, by omega⟩ _).mono ?_); rintro e w' ⟨rfl, rfl⟩) | ((go_at_call 15; with_reducible refine (out_yes (by omega) _).mono ?_); rintro e w' ⟨rfl, rfl⟩))
          go_quiet (fail)
          go_wp2_with fail
          go_ret
          exact ⟨ret_int HF.out.symm, Ext.trans HX.out (by repeat' (first | (with_reducible exact Below.refl _ _) | (with_reducible assumption) | (with_reducible refine below_drewN ?_ _) | (with_reducible refine Below.drew ?_) | (with_reducible refine ext_alloc ?_ _) | (with_reducible refine Below.setCell ?_ ?_ _) | go_size))⟩
    obtain rfl : n = k := by omega
    have hz := HZ.out HA.out
    have i0 : ¬ (n : Int) < (n : Int) := by omega
    rcases Nat.eq_zero_or_pos n with hn0 | hn0
    · rw [if_neg (fun h => by omega)] at hz
      have HF := hide hz
      have d0 : decide ((0 : Int) < (n : Int)) = false := by simp; omega
      have d1 : decide (0 < n) = false := by simp; omega
      clear hz hn0 HZ
      go_wp2_with fail
      go_quiet (fail)
      go_wp2_with fail
      go_ret
      exact ⟨ret_int HF.out.symm, Ext.trans HX.out (by repeat' (first | (with_reducible exact Below.refl _ _) | (with_reducible assumption) | (with_reducible refine below_drewN ?_ _) | (with_reducible refine Below.drew ?_) | (with_reducible refine ext_alloc ?_ _) | (with_reducible refine Below.setCell ?_ ?_ _) | go_size))⟩
    · obtain ⟨b, off, rfl, _⟩ := H.out.addr hn0
      have hat := H.out.ext HX.out
      have p0 := hat.cellK (k := n - 1) (by omega) dS 0 _ rfl
      have p1 := hat.cellK (k := n - 1) (by omega) dS 1 _ rfl
      rw [Nat.add_zero] at p0
      have hbl := badS_ok (smpEl_zero (HA.out (n - 1) (by omega))).1
      have he : endS l = (l.getD (n - 1) dS).time + (l.getD (n - 1) dS).step := by unfold endS; rw [HL.out]
      rw [he] at hz
      generalize (l.getD (n - 1) dS).time = pt at *
      generalize (l.getD (n - 1) dS).step = ps at *
      obtain ⟨⟨q1, q2⟩, ⟨q3, q4⟩, _, _⟩ := hbl
      have d0 : decide ((0 : Int) < (n : Int)) = true := by simp; omega
      have i2 : IntKind.i64.wrap ((n : Int) - 1) = (n : Int) - 1 := by rw [IntKind.wrap_i64]; omega
      have i3 : ((n : Int) - 1).toNat = n - 1 := by omega
      have i4 : 0 ≤ (n : Int) - 1 := by omega
      have i5 : (n : Int) - 1 < (n : Int) := by omega
      have i6 : 1 ≤ (n : Int) := by omega
      have i8 : IntKind.i64.wrap (pt + ps) = pt + ps := by rw [IntKind.wrap_i64]; omega
      clear hat he HZ
      cases hb : noT (pt + ps) with
      | true =>
        rw [if_pos ⟨hn0, hb⟩] at hz
        have HF := hide hz
        have HT := hide (notime_yes hb)
        clear hz hb
        go_wp2_with fail
        go_quiet ((go_at_call 82; exact quiet_left (HT.out _)))
        go_wp2_with fail
        go_ret
        exact ⟨ret_int HF.out.symm, Ext.trans HX.out (by repeat' (first | (with_reducible exact Below.refl _ _) | (with_reducible assumption) | (with_reducible refine below_drewN ?_ _) | (with_reducible refine Below.drew ?_) | (with_reducible refine ext_alloc ?_ _) | (with_reducible refine Below.setCell ?_ ?_ _) | go_size))⟩
      | false =>
        rw [if_neg (fun h => by rw [hb] at h; cases h.2)] at hz
        have HF := hide hz
        have HT := hide (notime_no hb)
        clear hz hb
        go_wp2_with fail
        go_quiet ((go_at_call 82; exact quiet_left (HT.out _)))
        go_wp2_with fail
        go_ret
        exact ⟨ret_int HF.out.symm, Ext.trans HX.out (by repeat' (first | (with_reducible exact Below.refl _ _) | (with_reducible assumption) | (with_reducible refine below_drewN ?_ _) | (with_reducible refine Below.drew ?_) | (with_reducible refine ext_alloc ?_ _) | (with_reducible refine Below.setCell ?_ ?_ _) | go_size))⟩
end Go.Proofs.Ytlonhkjplijlcaa
