/- Boxes in plain words: what is read is written as it was, and what is written is read as it was. Plain. -/
import Derived.Test.YtoliplgadhdgbaaDoorBbkP
namespace Go.Proofs.YtoliplgadhdgbaaDoor
theorem pre_ok {l ns : List NodeT} {m : Nat} {r : ParR} (h : r.pre l = .ok ns m) : ∃ rs, r = .ok rs m ∧ ns = l ++ rs := by
  cases r with
  | ok rs c =>
    injection h with h1 h2
    subst h2
    exact ⟨rs, rfl, h1.symm⟩
  | err a f => cases h
theorem fauL_cons {k : List UInt8} {f : Int} {d : List UInt8} {l r : List BoxT} {dep c m m' : Nat} (h1 : ¬ (2000 < c + 1 ∨ 8 ≤ dep)) (h2 : elB k f d l.length r.isEmpty = 0) (h3 : fauL l (dep + 1) (c + 1) = (0, m')) (h4 : fauL r dep m' = (0, m)) :
    fauL (.mk k f d l :: r) dep c = (0, m) := by
  rw [fauL, if_neg h1, if_neg (by omega), h3, if_neg (by simp)]
  exact h4
theorem elB_of {k : List UInt8} {f : Int} {d : List UInt8} {n : Nat} {last : Bool} (h1 : isKindB k = true) (h2 : f = 0 ∨ f = 1 ∨ f = 2) (h3 : hasKidsB k = true → d = []) (h4 : hasKidsB k = false → n = 0) (h5 : f = 2 → last = true) : elB k f d n last = 0 := by
  unfold elB
  rw [h1, if_neg (by simp), if_neg (by omega), if_neg, if_neg]
  · rintro ⟨hf, hl⟩
    rw [h5 hf] at hl; cases hl
  · rintro (⟨a, b⟩ | ⟨a, b⟩)
    · rw [h3 a] at b; exact absurd b (Nat.lt_irrefl _)
    · rw [h4 a] at b; exact absurd b (Nat.lt_irrefl _)
theorem cutB_nil {b : List UInt8} {i j : Nat} (h : j ≤ i) : cutB b i j = [] := by unfold cutB; rw [show j - i = 0 by omega]; rfl
theorem isEmpty_of {b : List UInt8} {e to dep c m : Nat} {rs : List NodeT} (h : to ≤ e) (hp : parF b e to dep c = .ok rs m) : (boxesOf b rs).isEmpty = true := by
  rw [parF_end h] at hp
  injection hp with h1 _
  subst h1
  rw [boxesOf]; rfl
/-- What is read as boxes is right, and they are written as they were. -/
theorem par_bytes {b : List UInt8} : ∀ (n f to dep c m : Nat) (l : List NodeT), to - f < n → f ≤ to → to ≤ b.length → parF b f to dep c = .ok l m → fauL (boxesOf b l) dep c = (0, m) ∧ bytL (boxesOf b l) = cutB b f to
  | 0, _, _, _, _, _, _, h, _, _, _ => absurd h (Nat.not_lt_zero _)
  | n + 1, f, to, dep, c, m, l, hn, hft, htb, hp => by
    by_cases he : to ≤ f
    · rw [parF_end he] at hp
      injection hp with h1 h2
      subst h1 h2
      rw [boxesOf, cutB_nil he, bytL, fauL]
      exact ⟨rfl, rfl⟩
    have hlt : f < to := by omega
    by_cases hc : 2000 < c + 1 ∨ 8 ≤ dep
    · rw [parF_large hlt hc] at hp; cases hp
    cases hh : headP b f to with
    | none => rw [parF_none hlt hc hh] at hp; cases hp
    | some r =>
      obtain ⟨k, fo, d, e⟩ := r
      obtain ⟨a1, a2, a3, a4, a5, a6⟩ := headP_some hh
      obtain ⟨b1, b2, b3⟩ := headP_bytes htb hh
      have hcut : cutB b f to = cutB b f d ++ (cutB b d e ++ cutB b e to) := by
        rw [cutB_join (by omega) (by omega), cutB_join (by omega) (by omega)]
      cases hk : hasKidsB k with
      | true =>
        rw [parF_kids hlt hc hh hk] at hp
        cases hq : parF b d e (dep + 1) (c + 1) with
        | err a g => rw [hq] at hp; cases hp
        | ok ks m' =>
          rw [hq] at hp
          obtain ⟨rs, hr, rfl⟩ := pre_ok hp
          obtain ⟨i1, i2⟩ := par_bytes n d e (dep + 1) (c + 1) m' ks (by omega) (by omega) (by omega) hq
          obtain ⟨i3, i4⟩ := par_bytes n e to dep m' m rs (by omega) (by omega) htb hr
          have hl := bytL_len _ _ _ _ i1
          rw [i2, cutB_ln (by omega)] at hl
          have hbx : boxesOf b ([NodeT.mk k fo f d e ks] ++ rs) = BoxT.mk k fo [] (boxesOf b ks) :: boxesOf b rs := by
            show boxesOf b (NodeT.mk k fo f d e ks :: rs) = _
            rw [boxesOf, boxOf, if_pos hk]
          rw [hbx]
          refine ⟨fauL_cons hc (elB_of a4 a6 (fun _ => rfl) (fun h => by rw [hk] at h; cases h) (fun h2 => isEmpty_of (by have := b3 h2; omega) hr)) i1 i3, ?_⟩
          rw [bytL, bytT, i2, i4, hcut, b2, ← hl, List.length_nil]
          rw [show 8 + 0 + (if fo = 1 then 8 else 0) + (e - d) = e - f by generalize (if fo = 1 then 8 else 0) = q at b1 ⊢; omega]
          simp [List.append_assoc]
      | false =>
        rw [parF_leaf hlt hc hh hk] at hp
        obtain ⟨rs, hr, rfl⟩ := pre_ok hp
        obtain ⟨i3, i4⟩ := par_bytes n e to dep (c + 1) m rs (by omega) (by omega) htb hr
        have hbx : boxesOf b ([NodeT.mk k fo f d e []] ++ rs) = BoxT.mk k fo (cutB b d e) [] :: boxesOf b rs := by
          show boxesOf b (NodeT.mk k fo f d e [] :: rs) = _
          rw [boxesOf, boxOf, if_neg (by rw [hk]; simp), boxesOf]
        rw [hbx]
        refine ⟨fauL_cons hc (elB_of a4 a6 (fun h => by rw [hk] at h; cases h) (fun _ => rfl) (fun h2 => isEmpty_of (by have := b3 h2; omega) hr)) (by rw [fauL]) i3, ?_⟩
        rw [bytL, bytT, i4, hcut, b2, cutB_ln (by omega), sizeL, bytL]
        rw [show 8 + (e - d) + (if fo = 1 then 8 else 0) + 0 = e - f by generalize (if fo = 1 then 8 else 0) = q at b1 ⊢; omega]
        simp [List.append_assoc]
/-- What is written is read as it was. -/
theorem byt_parse {b : List UInt8} (hb : b.length < 4294967296) : ∀ (l : List BoxT) (f to dep c m : Nat), fauL l dep c = (0, m) → f ≤ to → to ≤ b.length → cutB b f to = bytL l → ∃ ns, parF b f to dep c = .ok ns m ∧ boxesOf b ns = l
  | [], f, to, dep, c, m, hfl, hft, htb, hcut => by
    rw [fauL] at hfl
    injection hfl with _ h2
    subst h2
    have := congrArg List.length hcut
    rw [cutB_ln htb, bytL] at this
    refine ⟨[], parF_end (by simp at this; omega), by rw [boxesOf]⟩
  | .mk k fo d kl :: r, f, to, dep, c, m, hfl, hft, htb, hcut => by
    obtain ⟨h1, h2, m', h3, h4⟩ := fauL_ok hfl
    obtain ⟨e1, e2, e3, e4, e5⟩ := elB_ok h2
    have hl1 := bytL_len _ _ _ _ h3
    have hl2 := bytL_len _ _ _ _ h4
    have hk4 := kind_len e1
    rw [bytL, bytT] at hcut
    obtain ⟨N, hN⟩ : ∃ N, N = 8 + d.length + (if fo = 1 then 8 else 0) + sizeL kl := ⟨_, rfl⟩
    rw [← hN] at hcut
    obtain ⟨H, hH⟩ : ∃ H, H = 8 + (if fo = 1 then 8 else 0) := ⟨_, rfl⟩
    have hhl : (headB k fo N).length = H := by rw [headB_len hk4, hH]
    obtain ⟨p1, p2, p3⟩ := cutB_split hft htb hcut
    have hbl : (headB k fo N ++ d ++ bytL kl).length = N := by rw [List.length_append, List.length_append, hhl, hl1, hH, hN]; omega
    rw [hbl] at p1 p2 p3
    rw [List.append_assoc] at p2
    obtain ⟨q1, q2, q3⟩ := cutB_split (by omega) (by omega) p2
    rw [hhl] at q1 q2 q3
    have hHN : H ≤ N := by omega
    have h8 : 8 ≤ H := by omega
    have hop : fo = 2 → f + N = to := fun h5 => by
      have h6 := e5 h5
      cases r with
      | cons x r => cases h6
      | nil =>
        rw [bytL] at p3
        have := congrArg List.length p3
        rw [cutB_ln htb] at this
        simp at this
        omega
    have hhd := headP_of (b := b) (k := k) (f := fo) (n := N) (i := f) (to := to) e1 e2 (by omega) htb p1 (by rw [← hH]; exact hHN) hop (by rw [← hH]; exact q2)
    rw [← hH] at hhd
    obtain ⟨rs, hr1, hr2⟩ := byt_parse hb r (f + N) to dep m' m h4 p1 htb p3
    cases hk : hasKidsB k with
    | true =>
      have hd := e3 hk
      subst hd
      rw [List.nil_append] at q3
      obtain ⟨ks, hk1, hk2⟩ := byt_parse hb kl (f + H) (f + N) (dep + 1) (c + 1) m' h3 (by omega) (by omega) q3
      refine ⟨[NodeT.mk k fo f (f + H) (f + N) ks] ++ rs, ?_, ?_⟩
      · rw [parF_kids (by omega) h1 hhd hk, hk1]
        show (parF b (f + N) to dep m').pre _ = _
        rw [hr1]; rfl
      · show boxesOf b (NodeT.mk k fo f (f + H) (f + N) ks :: rs) = _
        rw [boxesOf, boxOf, if_pos hk, hk2, hr2]
    | false =>
      have hkl := List.eq_nil_of_length_eq_zero (e4 hk)
      subst hkl
      rw [fauL] at h3
      injection h3 with _ h3
      subst h3
      rw [bytL, List.append_nil] at q3
      refine ⟨[NodeT.mk k fo f (f + H) (f + N) []] ++ rs, ?_, ?_⟩
      · rw [parF_leaf (by omega) h1 hhd hk, hr1]; rfl
      · show boxesOf b (NodeT.mk k fo f (f + H) (f + N) [] :: rs) = _
        rw [boxesOf, boxOf, if_neg (by rw [hk]; simp), boxesOf, q3, hr2]
end Go.Proofs.YtoliplgadhdgbaaDoor
