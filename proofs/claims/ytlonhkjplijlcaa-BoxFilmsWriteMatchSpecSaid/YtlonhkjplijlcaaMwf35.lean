/- Films as bytes, in plain words. Plain but for the words of tracks. -/
import Derived.Test.YtlonhkjplijlcaaMwf33
import Derived.Test.YtlonhkjplijlcaaMwf34
namespace Go.Proofs.Ytlonhkjplijlcaa
/-! ### Sizes -/
theorem tabBy_le {l : List Smp} {ch pl : List Int} (hl : l.length ≤ 5000) (hc : ch.length ≤ 5000) (hp : pl.length ≤ 5000) : (tabBy (cmpT l ch pl)).length ≤ 400000 := by
  have a1 := (rowK_bd Smp.step l l.length).1
  have a2 := (rowK_bd Smp.shift l l.length).1
  have a3 : (cmpT l ch pl).sizes.length ≤ 5000 := by
    unfold cmpT
    simp only
    split
    · rw [List.length_take]; omega
    · rw [szK_len]; exact hl
  have a4 : (cmpT l ch pl).keys.length ≤ 5000 := by
    unfold cmpT
    simp only
    split
    · simp
    · exact Nat.le_trans (keyK_len l l.length) hl
  have a5 := chK_len ch ch.length
  have a6 := keyB_len (cmpT l ch pl).nok (cmpT l ch pl).keys
  have a7 : (cmpT l ch pl).steps.length ≤ 5000 := Nat.le_trans a1 hl
  have a8 : (cmpT l ch pl).shifts.length ≤ 5000 := Nat.le_trans a2 hl
  have a9 : (cmpT l ch pl).chunks.length ≤ 5000 := Nat.le_trans a5 hc
  have a10 : (cmpT l ch pl).places.length ≤ 5000 := hp
  unfold tabBy
  simp only [List.length_append, liB_len, rnN_len, beN_len]
  omega
theorem leaf_size (k d : List UInt8) : sizeT (leafB k d) = 8 + d.length := by
  rw [sizeT_eq]
  show 8 + d.length + (if (0 : Int) = 1 then 8 else 0) + sizeL [] = _
  rw [if_neg (by omega)]
  rfl
theorem trk_size {x : TrkT} {ch : Nat} {pl : List Int} (hc : 1 ≤ ch) (hn : x.name.length ≤ 40) (hl : x.smp.length ≤ 5000) (he : x.ed.length ≤ 50) (hp : pl.length ≤ 5000) : sizeT (trkB x ch pl) ≤ 500000 := by
  have h1 : (ckL x.smp.length ch).length ≤ 5000 := by unfold ckL; rw [ckK_len]; exact Nat.le_trans (ckN_le hc) hl
  have h2 := tabBy_le hl h1 hp
  rw [sizeT_eq]
  show 8 + ([] : List UInt8).length + (if (0 : Int) = 1 then 8 else 0) + sizeL [leafB kName x.name, leafB kRate (beN 4 (u64N x.scale)), leafB kEdit (edB x.ed), leafB kTabl (tabBy (cmpT x.smp (ckL x.smp.length ch) pl))] ≤ _
  rw [if_neg (by omega), sizeL, sizeL, sizeL, sizeL, sizeL, leaf_size, leaf_size, leaf_size, leaf_size, beN_len, edB_len]
  simp only [List.length_nil]
  omega
/-- Names are not long. -/
theorem nmS_of {sc : Int} {T : List TrkT} (h : FilOk sc T) : nmS T := fun i hi => by
  have h1 := (trF_ok (h.tracks i hi)).1
  unfold nameB at h1
  split at h1
  · rename_i h2
    have : (⟨(T.getD i default).name.toArray⟩ : ByteArray).size = (T.getD i default).name.length := by show (T.getD i default).name.toArray.size = _; rw [List.size_toArray]
    omega
  · cases h1
theorem kids_size {sc : Int} {T : List TrkT} {ch : Nat} {P : List (List Int)} (hr : FilR T) (hn : nmS T) (hc : 1 ≤ ch) (hp : ∀ i, (P.getD i []).length ≤ 5000) : ∀ i, i ≤ T.length → sizeL (kidsB sc T ch P i) ≤ 12 + 500000 * i
  | 0, _ => by
    show sizeL [leafB kHead (beN 4 (u64N sc))] ≤ _
    rw [sizeL, sizeL, leaf_size, beN_len]
    omega
  | i + 1, hi => by
    have h1 := kids_size (sc := sc) hr hn hc hp i (by omega)
    have h2 := trk_size (pl := P.getD i []) hc (hn i (by omega)) (hr.smp i (by omega)).2 (hr.ed i (by omega)) (hp i)
    rw [kidsB, sizeL_app, sizeL, sizeL]
    omega
theorem film_size {sc : Int} {T : List TrkT} {ch : Nat} {P : List (List Int)} (hr : FilR T) (hn : nmS T) (hc : 1 ≤ ch) (hp : ∀ i, (P.getD i []).length ≤ 5000) : sizeT (filmB sc T ch P) ≤ 5000000 := by
  have h1 := kids_size (sc := sc) hr hn hc hp T.length (Nat.le_refl _)
  have h2 := hr.few
  rw [sizeT_eq]
  show 8 + ([] : List UInt8).length + (if (0 : Int) = 1 then 8 else 0) + sizeL (kidsB sc T ch P T.length) ≤ _
  rw [if_neg (by omega)]
  simp only [List.length_nil]
  omega
theorem both_size (sc : Int) (T : List TrkT) (ch : Nat) (P : List (List Int)) (d : List UInt8) : sizeL [filmB sc T ch P, dataB d] = sizeT (filmB sc T ch P) + 8 + d.length := by
  rw [sizeL, sizeL, sizeL]
  unfold dataB
  rw [leaf_size]
  omega
/-! ### These boxes are right -/
theorem fau_leaf {k d : List UInt8} {r : List BoxT} {dep c m : Nat} (hk : isKindB k = true) (hh : hasKidsB k = false) (hd : dep < 8) (hc : c + 1 ≤ 2000) (h : fauL r dep (c + 1) = (0, m)) : fauL (leafB k d :: r) dep c = (0, m) :=
  fauL_cons (m' := c + 1) (by omega) (elB_of hk (.inl rfl) (fun e => by rw [hh] at e; cases e) (fun _ => rfl) (fun e => by omega)) (by rw [fauL]) h
theorem fau_app {x : BoxT} {dep : Nat} : ∀ {l : List BoxT} {c m m' : Nat}, (∀ y ∈ l, y.form = 0) → fauL l dep c = (0, m) → fauL [x] dep m = (0, m') → fauL (l ++ [x]) dep c = (0, m')
  | [], c, m, m', _, h, h2 => by
    have : c = m := by rw [fauL] at h; injection h
    subst this
    exact h2
  | .mk k f d kl :: r, c, m, m', hf, h, h2 => by
    obtain ⟨h3, h4, q, h5, h6⟩ := fauL_ok h
    have hf0 : f = 0 := hf _ (List.mem_cons_self ..)
    subst hf0
    refine fauL_cons h3 ?_ h5 (fau_app (fun y hy => hf y (List.mem_cons_of_mem _ hy)) h6 h2)
    have h7 := elB_ok h4
    unfold elB at h4 ⊢
    split at h4
    · omega
    split at h4
    · omega
    split at h4
    · omega
    rename_i a1 a2 a3
    rw [if_neg a1, if_neg a2, if_neg a3, if_neg (by omega)]
theorem fau_trk {x : TrkT} {ch : Nat} {pl : List Int} {dep c : Nat} (hd : dep < 7) (hc : c + 5 ≤ 2000) : fauL [trkB x ch pl] dep c = (0, c + 5) := by
  refine fauL_cons (m' := c + 5) (by omega) (elB_of (by decide) (.inl rfl) (fun _ => rfl) (fun e => by have h0 : hasKidsB kTrck = true := (by decide); rw [h0] at e; cases e) (fun e => by omega)) ?_ (by rw [fauL])
  refine fau_leaf (by decide) (by decide) (by omega) (by omega) ?_
  refine fau_leaf (by decide) (by decide) (by omega) (by omega) ?_
  refine fau_leaf (by decide) (by decide) (by omega) (by omega) ?_
  exact fau_leaf (by decide) (by decide) (by omega) (by omega) (by rw [fauL])
theorem kids_form (sc : Int) (T : List TrkT) (ch : Nat) (P : List (List Int)) : ∀ i, ∀ y ∈ kidsB sc T ch P i, y.form = 0
  | 0, y, hy => by
    rw [kidsB, List.mem_singleton] at hy
    subst hy; rfl
  | i + 1, y, hy => by
    rw [kidsB, List.mem_append] at hy
    rcases hy with hy | hy
    · exact kids_form sc T ch P i y hy
    · rw [List.mem_singleton] at hy
      subst hy; rfl
theorem fau_kids (sc : Int) (T : List TrkT) (ch : Nat) (P : List (List Int)) {dep c : Nat} (hd : dep < 7) : ∀ i, c + 1 + 5 * i ≤ 2000 → fauL (kidsB sc T ch P i) dep c = (0, c + 1 + 5 * i)
  | 0, h => fau_leaf (by decide) (by decide) (by omega) (by omega) (by rw [fauL])
  | i + 1, h => by
    have h1 := fau_kids sc T ch P (dep := dep) (c := c) hd i (by omega)
    have h2 := fau_trk (x := T.getD i default) (ch := ch) (pl := P.getD i []) (dep := dep) (c := c + 1 + 5 * i) hd (by omega)
    rw [kidsB]
    rw [show c + 1 + 5 * (i + 1) = c + 1 + 5 * i + 5 by omega]
    exact fau_app (kids_form sc T ch P i) h1 h2
theorem fau_both (sc : Int) {T : List TrkT} (ch : Nat) (P : List (List Int)) (d : List UInt8) (h8 : T.length ≤ 8) : fauL [filmB sc T ch P, dataB d] 0 0 = (0, 2 + 5 * T.length + 1) := by
  refine fauL_cons (m' := 0 + 1 + 1 + 5 * T.length) (by omega) (elB_of (by decide) (.inl rfl) (fun _ => rfl) (fun e => by have h0 : hasKidsB kFilm = true := (by decide); rw [h0] at e; cases e) (fun e => by omega)) (fau_kids sc T ch P (by omega) T.length (by omega)) ?_
  rw [show 2 + 5 * T.length + 1 = 0 + 1 + 1 + 5 * T.length + 1 by omega]
  exact fau_leaf (by decide) (by decide) (by omega) (by omega) (by rw [fauL])
/-! ### The bytes of chunks do not hang on where they lie -/
section
variable {T : List TrkT} {D : List (List UInt8)} {ch a b : Nat}
theorem layI_same {n i : Nat} {s t : LayS} (h1 : s.out = t.out) (h2 : s.pl.length = t.pl.length) (h3 : ∀ j, (s.pl.getD j []).length = (t.pl.getD j []).length) :
    (layI T D ch a n i s).out = (layI T D ch b n i t).out ∧ (layI T D ch a n i s).pl.length = (layI T D ch b n i t).pl.length ∧ ∀ j, ((layI T D ch a n i s).pl.getD j []).length = ((layI T D ch b n i t).pl.getD j []).length := by
  unfold layI
  split
  · exact ⟨h1, h2, h3⟩
  · refine ⟨by simp only [h1], by simp only [List.length_set, h2], fun j => ?_⟩
    simp only
    have h4 := h3 j
    have h5 := h3 i
    simp only [List.getD_eq_getElem?_getD, List.getElem?_set] at h4 h5 ⊢
    by_cases hij : i = j
    · subst hij
      by_cases hl : i < s.pl.length
      · have hl2 : i < t.pl.length := by omega
        simp only [hl, hl2, if_true, Option.getD_some, List.length_append, h5]
        rfl
      · have hl2 : ¬ i < t.pl.length := by omega
        simp only [hl, hl2, if_true, if_false]
    · simp only [hij, if_false, h4]
theorem layK_same {n : Nat} {s t : LayS} (h1 : s.out = t.out) (h2 : s.pl.length = t.pl.length) (h3 : ∀ j, (s.pl.getD j []).length = (t.pl.getD j []).length) : ∀ k,
    (layK T D ch a n s k).out = (layK T D ch b n t k).out ∧ (layK T D ch a n s k).pl.length = (layK T D ch b n t k).pl.length ∧ ∀ j, ((layK T D ch a n s k).pl.getD j []).length = ((layK T D ch b n t k).pl.getD j []).length
  | 0 => ⟨h1, h2, h3⟩
  | k + 1 => by
    obtain ⟨a1, a2, a3⟩ := layK_same (n := n) h1 h2 h3 k
    exact layI_same a1 a2 a3
theorem layR_same : ∀ n, (layR T D ch a n).out = (layR T D ch b n).out ∧ (layR T D ch a n).pl.length = (layR T D ch b n).pl.length ∧ ∀ j, ((layR T D ch a n).pl.getD j []).length = ((layR T D ch b n).pl.getD j []).length
  | 0 => ⟨rfl, rfl, fun _ => rfl⟩
  | n + 1 => by
    obtain ⟨a1, a2, a3⟩ := layR_same n
    exact layK_same a1 a2 a3 T.length
theorem layF_same : (layF T D ch a).out = (layF T D ch b).out ∧ ∀ j, ((layF T D ch a).pl.getD j []).length = ((layF T D ch b).pl.getD j []).length := ⟨(layR_same _).1, (layR_same _).2.2⟩
end
/-! ### WriteFilm -/
/-- Where the bytes of tracks begin. -/
def headN (sc : Int) (T : List TrkT) (ch : Nat) (P : List (List Int)) : Nat := sizeT (filmB sc T ch P) + 8
/-- The fault of WriteFilm. -/
def wfF (sc : Int) (T : List TrkT) (D : List (List UInt8)) (ch : Int) : Int :=
  if filF sc T ≠ 0 then filF sc T else if ch < 1 ∨ 1000 < ch then 1 else if datF T D ≠ 0 then datF T D
  else if 1000000 < headN sc T ch.toNat (layF T D ch.toNat 0).pl + (layF T D ch.toNat 0).out.length then 2 else 0
/-- The second places: those in the file. -/
def lay2 (sc : Int) (T : List TrkT) (D : List (List UInt8)) (ch : Nat) : LayS := layF T D ch (headN sc T ch (layF T D ch 0).pl)
/-- The boxes that WriteFilm writes. -/
def wfL (sc : Int) (T : List TrkT) (D : List (List UInt8)) (ch : Nat) : List BoxT := [filmB sc T ch (lay2 sc T D ch).pl, dataB (lay2 sc T D ch).out]
/-- The bytes that WriteFilm gives. -/
def wfB (sc : Int) (T : List TrkT) (D : List (List UInt8)) (ch : Int) : List UInt8 := if wfF sc T D ch = 0 then bytL (wfL sc T D ch.toNat) else []
theorem layF_rows {T : List TrkT} {D : List (List UInt8)} {ch a : Nat} (hr : FilR T) (hc : 1 ≤ ch) (i : Nat) : ((layF T D ch a).pl.getD i []).length ≤ 5000 := (layR_few (fun i hi => (hr.smp i hi).2) hc _ i).1
theorem wf_sizes {sc : Int} {T : List TrkT} {D : List (List UInt8)} {ch : Nat} (hr : FilR T) (hn : nmS T) (hc : 1 ≤ ch) (ho : (layF T D ch 0).out.length ≤ 1000000) : sizeL (wfL sc T D ch) ≤ 10000000 := by
  have h1 := film_size (sc := sc) (P := (lay2 sc T D ch).pl) hr hn hc (fun i => layF_rows hr hc i)
  have h2 : (lay2 sc T D ch).out = (layF T D ch 0).out := layF_same.1
  unfold wfL
  rw [both_size, h2]
  omega
end Go.Proofs.Ytlonhkjplijlcaa
