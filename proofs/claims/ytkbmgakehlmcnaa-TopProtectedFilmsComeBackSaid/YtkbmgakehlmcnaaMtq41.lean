/- Several texts in one: Plain: a film's boxes are read as they were written. Conditions as stated; Plain: a film and its bytes are read as they were written. Conditions as stated; Walks: wrong, has (the program's reader of films); nodes laid open. Conditions as stated; The state of the program's reader of films. No condition. -/
import Derived.Test.YtkbmgakehlmcnaaMtq39
import Derived.Test.YtkbmgakehlmcnaaMtq40
import Derived.Test.YtkbmgakehlmcnaaMtq02
import Derived.Test.YtkbmgakehlmcnaaMtq24
import Derived.Lib.OwnKind
namespace Go.Proofs.Ytkbmgakehlmcnaa
theorem edB_app (x y : List (Int × Int)) : edB (x ++ y) = edB x ++ edB y := by unfold edB lsB rnN; rw [List.flatMap_append, List.flatMap_append]
theorem edB_one (x y : Int) : edB [(x, y)] = beN 8 (u64N x) ++ beN 8 (u64N y) := by unfold edB lsB rnN; simp
theorem sgn8_beN {x : Int} (h : -9223372036854775808 ≤ x ∧ x ≤ 9223372036854775807) : sgn8 (beN 8 (u64N x)) = x := by
  unfold sgn8; rw [beN_numB 8 _ (u64N_lt _)]; exact wrap_u64N h
theorem edK_edB {l : List (Int × Int)} (h : ∀ k, k < l.length → badE (l.getD k (0, 0)) = false) : ∀ k, k ≤ l.length → edK (edB l) k = l.take k
  | 0, _ => by simp [edK]
  | k + 1, hk => by
    have hb := badE_ok (h k (by omega))
    have e : edB l = edB (l.take k) ++ (edB [l.getD k (0, 0)] ++ edB (l.drop (k + 1))) := by
      rw [← edB_app, ← edB_app]
      congr 1
      have := getD_take l k (0, 0) (by omega)
      rw [← List.append_assoc, ← this, List.take_append_drop]
    have hl : (edB (l.take k)).length = 16 * k := by rw [edB_len, List.length_take]; omega
    have h1 : Lies (edB l) (16 * k) (beN 8 (u64N (l.getD k (0, 0)).1) ++ beN 8 (u64N (l.getD k (0, 0)).2)) := by
      rw [e, ← List.append_assoc, ← hl, show edB [l.getD k (0, 0)] = beN 8 (u64N (l.getD k (0, 0)).1) ++ beN 8 (u64N (l.getD k (0, 0)).2) from edB_one _ _]
      exact lies_more _ (lies_end _ _)
    obtain ⟨h2, h3⟩ := lies_app.1 h1
    rw [beN_len] at h3
    rw [edK, edK_edB h k (by omega), getD_take l k (0, 0) (by omega), lies_cut h2 (beN_len 8 _), show 16 * k + 16 = 16 * k + 8 + 8 by omega, lies_cut h3 (beN_len 8 _), sgn8_beN ⟨by omega, by omega⟩, sgn8_beN ⟨by omega, by omega⟩]
theorem edR_edB {l : List (Int × Int)} (h : edF l = 0) : edR (edB l) = l := by
  have hb : ∀ k, k < l.length → badE (l.getD k (0, 0)) = false := fun k hk => by
    cases hc : badE (l.getD k (0, 0)) with
    | false => rfl
    | true => rw [edF_bad hk hc] at h; omega
  unfold edR
  rw [edB_len, show 16 * l.length / 16 = l.length by omega, edK_edB hb _ (Nat.le_refl _), List.take_length]
theorem rate_back {x : Int} (h : 1 ≤ x ∧ x ≤ 1000000000) : (numB (beN 4 (u64N x)) : Int) = x := by
  have e : ((u64N x : Nat) : Int) = x := by rw [u64N_cast, IntKind.wrap_u64]; omega
  rw [beN_numB 4 _ (by show u64N x < 4294967296; omega), e]
theorem boxes_len {b : List UInt8} {ns : List NodeT} {l : List BoxT} (h : boxesOf b ns = l) : ns.length = l.length := by rw [← h, boxesOf_map, List.length_map]
theorem boxes_get {b : List UInt8} {ns : List NodeT} {l : List BoxT} {i : Nat} {y : BoxT} (h : boxesOf b ns = l) (hy : l[i]? = some y) : ∃ x, ns[i]? = some x ∧ boxOf b x = y := by
  rw [← h, boxesOf_map, List.getElem?_map] at hy
  cases hx : ns[i]? with
  | none => rw [hx] at hy; cases hy
  | some x =>
    rw [hx] at hy
    injection hy with hy
    exact ⟨x, rfl, hy⟩
theorem leaf_node {b k d : List UInt8} {x : NodeT} (h : boxOf b x = leafB k d) (hk : hasKidsB k = false) : x.kind = k ∧ ctB b x = d := by
  obtain ⟨k', f, bg, da, en, l⟩ := x
  rw [boxOf] at h
  unfold leafB at h
  injection h with h1 h2 h3 h4
  subst h1
  rw [hk, if_neg (by simp)] at h3
  exact ⟨rfl, h3⟩
theorem kids_node {b k : List UInt8} {f : Int} {d : List UInt8} {l : List BoxT} {x : NodeT} (h : boxOf b x = .mk k f d l) : x.kind = k ∧ boxesOf b x.kids = l := by
  obtain ⟨k', f', bg, da, en, l'⟩ := x
  rw [boxOf] at h
  injection h with h1 h2 h3 h4
  exact ⟨h1, h4⟩
theorem kid_get {b : List UInt8} {ns : List NodeT} {l : List BoxT} {i en : Nat} {k d : List UInt8} (h : boxesOf b ns = l) (hy : l[i]? = some (leafB k d)) (hk : hasKidsB k = false) : ∃ x, kidR ns i k en = .ok x ∧ ctB b x = d := by
  obtain ⟨x, h1, h2⟩ := boxes_get h hy
  obtain ⟨h3, h4⟩ := leaf_node h2 hk
  refine ⟨x, ?_, h4⟩
  unfold kidR
  rw [h1]
  simp only [h3, if_true]
def tbO (x : TrkT) (ch : Nat) (pl : List Int) : Tab := cmpT x.smp (ckL x.smp.length ch) pl
def trO (x : TrkT) (ch : Nat) (pl : List Int) : TrR := ⟨x.name, x.scale, x.ed, tbO x ch pl⟩
theorem trk_back {b : List UInt8} {n : NodeT} {x : TrkT} {ch : Nat} {pl : List Int} (h : boxOf b n = trkB x ch pl) (hs : 1 ≤ x.scale ∧ x.scale ≤ 1000000000) (he : edF x.ed = 0) (hF : cmpF x.smp (ckL x.smp.length ch) pl = 0) (hlen : (tabBy (tbO x ch pl)).length ≤ 1000000) : n.kind = kTrck ∧ trkR b n = .ok (trO x ch pl) := by
  obtain ⟨hk, hl⟩ := kids_node h
  refine ⟨hk, ?_⟩
  obtain ⟨y0, a0, c0⟩ := kid_get (i := 0) (en := n.en) hl rfl (by decide)
  obtain ⟨y1, a1, c1⟩ := kid_get (i := 1) (en := n.en) hl rfl (by decide)
  obtain ⟨y2, a2, c2⟩ := kid_get (i := 2) (en := n.en) hl rfl (by decide)
  obtain ⟨y3, a3, c3⟩ := kid_get (i := 3) (en := n.en) hl rfl (by decide)
  have h4 : n.kids[4]? = none := by
    rw [List.getElem?_eq_none]
    rw [boxes_len hl]; exact Nat.le_refl _
  have hT := tb_read (cmp_right hF) (fun hn => by
    have hn : allK x.smp x.smp.length = true := hn
    show (if allK x.smp x.smp.length = true then [] else keyK x.smp x.smp.length) = []
    rw [if_pos hn]) hlen
  unfold trkR
  rw [a0]
  show (kidR n.kids 1 kRate n.en).then _ = _
  rw [a1]
  show (if (ctB b y1).length ≠ 4 then Rdr.bad y1.beg else _) = _
  rw [if_neg (by rw [c1, beN_len]; simp), a2]
  show (if (ctB b y2).length % 16 ≠ 0 then Rdr.bad y2.beg else _) = _
  rw [if_neg (by rw [c2, edB_len]; omega), a3]
  show (if rtF (ctB b y3) ≠ 0 then Rdr.bad y3.beg else _) = _
  rw [if_neg (by rw [c3]; exact fun hc => hc hT.1), h4]
  show Rdr.ok _ = Rdr.ok _
  rw [c0, c1, c2, c3, rate_back hs, edR_edB he]
  have hv : rtV (tabBy (cmpT x.smp (ckL x.smp.length ch) pl)) = tbO x ch pl := by
    unfold rtV
    rw [if_pos hT.1]; exact hT.2.1
  rw [hv]
  rfl
theorem kidsB_zero (sc : Int) (T : List TrkT) (ch : Nat) (P : List (List Int)) : ∀ n, (kidsB sc T ch P n)[0]? = some (leafB kHead (beN 4 (u64N sc)))
  | 0 => rfl
  | n + 1 => by rw [kidsB, List.getElem?_append_left (by rw [kidsB_len]; omega)]; exact kidsB_zero sc T ch P n
theorem kidsB_get (sc : Int) (T : List TrkT) (ch : Nat) (P : List (List Int)) : ∀ n i, i < n → (kidsB sc T ch P n)[i + 1]? = some (trkB (T.getD i default) ch (P.getD i []))
  | 0, i, h => absurd h (Nat.not_lt_zero _)
  | n + 1, i, h => by
    rw [kidsB]
    by_cases hi : i < n
    · rw [List.getElem?_append_left (by rw [kidsB_len]; omega)]; exact kidsB_get sc T ch P n i hi
    · obtain rfl : i = n := by omega
      rw [List.getElem?_append_right (by rw [kidsB_len]; omega), kidsB_len, Nat.sub_self]
      rfl
theorem fil_back {b : List UInt8} {n : NodeT} {sc : Int} {T : List TrkT} {ch : Nat} {P : List (List Int)} (h : boxesOf b n.kids = kidsB sc T ch P T.length) (hs : 1 ≤ sc ∧ sc ≤ 1000000000)
    (ht : ∀ i, i < T.length → (1 ≤ (T.getD i default).scale ∧ (T.getD i default).scale ≤ 1000000000) ∧ edF (T.getD i default).ed = 0 ∧ cmpF (T.getD i default).smp (ckL (T.getD i default).smp.length ch) (P.getD i []) = 0 ∧ (tabBy (tbO (T.getD i default) ch (P.getD i []))).length ≤ 1000000) :
    filR b n = .ok (sc, mapR T.length fun i => trO (T.getD i default) ch (P.getD i [])) := by
  obtain ⟨y0, a0, c0⟩ := kid_get (i := 0) (en := b.length) h (kidsB_zero sc T ch P T.length) (by decide)
  have key : ∀ k, k ≤ T.length → trksK b n.kids k = .ok (mapR k fun i => trO (T.getD i default) ch (P.getD i [])) := by
    intro k
    induction k with
    | zero => intro _; rfl
    | succ k ih =>
      intro hk
      obtain ⟨x, hx, hb⟩ := boxes_get h (kidsB_get sc T ch P T.length k (by omega))
      obtain ⟨t1, t2, t3, t4⟩ := ht k (by omega)
      obtain ⟨g1, g2⟩ := trk_back hb t1 t2 t3 t4
      rw [trksK, ih (by omega)]
      show (match n.kids[k + 1]? with | none => Rdr.ok _ | some x => _) = _
      rw [hx]
      simp only [g1, if_true, g2]
      rw [mapR_succ]
      rfl
  unfold filR
  rw [a0]
  show (if (ctB b y0).length ≠ 4 then Rdr.bad y0.beg else _) = _
  rw [if_neg (by rw [c0, beN_len]; simp)]
  have hl := boxes_len h
  rw [kidsB_len] at hl
  rw [hl, Nat.add_sub_cancel, key _ (Nat.le_refl _)]
  show Rdr.ok _ = Rdr.ok _
  rw [c0, rate_back hs]
theorem two_back {b d : List UInt8} {kl : List BoxT} {m : Nat} (hb : b = bytL [.mk kFilm 0 [] kl, dataB d]) (hlen : b.length ≤ 1000000) (hf : fauL kl 1 1 = (0, m)) (hm : m + 1 ≤ 2000) :
    ∃ ks, parseF b = .ok [.mk kFilm 0 0 8 (8 + sizeL kl) ks, .mk kData 0 (8 + sizeL kl) (8 + sizeL kl + 8) b.length []] (m + 1) ∧ boxesOf b ks = kl ∧ Lies b (8 + sizeL kl + 8) d ∧ 8 + sizeL kl + 8 + d.length = b.length := by
  have hkl := bytL_len _ _ _ _ hf
  have e1 : bytL [.mk kFilm 0 [] kl, dataB d] = headB kFilm 0 (8 + sizeL kl) ++ (bytL kl ++ (headB kData 0 (8 + d.length) ++ d)) := by
    unfold dataB leafB
    rw [bytL, bytL, bytL, bytT, bytT, bytL, sizeL]
    simp
  rw [e1] at hb
  have l1 : (headB kFilm 0 (8 + sizeL kl)).length = 8 := headB_len (by decide)
  have l2 : (headB kData 0 (8 + d.length)).length = 8 := headB_len (by decide)
  have hbl : b.length = 8 + sizeL kl + 8 + d.length := by
    rw [hb]; simp only [List.length_append, l1, l2, hkl]; omega
  have hL : Lies b 0 (headB kFilm 0 (8 + sizeL kl) ++ (bytL kl ++ (headB kData 0 (8 + d.length) ++ d))) := by
    rw [← hb]; exact lies_all b
  obtain ⟨g1, g2⟩ := lies_app.1 hL
  obtain ⟨g3, g4⟩ := lies_app.1 g2
  obtain ⟨g5, g6⟩ := lies_app.1 g4
  rw [l1, Nat.zero_add] at g3 g5 g6
  rw [hkl] at g5 g6
  rw [l2] at g6
  have c1 := lies_cut g1 l1
  have c3 := lies_cut g3 hkl
  have c5 := lies_cut g5 l2
  have hd1 : headP b 0 b.length = some (kFilm, 0, 0 + (8 + if (0 : Int) = 1 then 8 else 0), 0 + (8 + sizeL kl)) := headP_of (by decide) (.inl rfl) (by omega) (Nat.le_refl _) (by omega) (by rw [if_neg (by omega)]; omega) (fun hc => by omega) (by rw [if_neg (by omega)]; exact c1)
  rw [if_neg (by omega), Nat.add_zero, Nat.zero_add] at hd1
  have hd2 : headP b (8 + sizeL kl) b.length = some (kData, 0, 8 + sizeL kl + (8 + if (0 : Int) = 1 then 8 else 0), 8 + sizeL kl + (8 + d.length)) := headP_of (by decide) (.inl rfl) (by omega) (Nat.le_refl _) (by omega) (by rw [if_neg (by omega)]; omega) (fun hc => by omega) (by rw [if_neg (by omega)]; exact c5)
  rw [if_neg (by omega), Nat.add_zero, show 8 + sizeL kl + (8 + d.length) = b.length by omega] at hd2
  obtain ⟨ks, hk1, hk2⟩ := byt_parse (b := b) (by omega) kl 8 (8 + sizeL kl) 1 1 m hf (by omega) (by omega) c3
  refine ⟨ks, ?_, hk2, g6, hbl.symm⟩
  unfold parseF
  rw [if_neg (by omega), parF_kids (by omega) (by omega) hd1 (by decide), hk1]
  show (parF b (8 + sizeL kl) b.length 0 m).pre _ = _
  rw [parF_leaf (by omega) (by omega) hd2 (by decide), parF_end (Nat.le_refl _)]
  rfl
theorem top_back {b : List UInt8} {n x : NodeT} {g : Int × List TrR} (h1 : n.kind = kFilm) (h2 : x.kind = kData) (h3 : filR b n = .ok g) : topR b [n, x] = .ok g := by
  have hne : ¬ x.kind = kFilm := by rw [h2]; decide
  have t1 : topK b [n, x] 1 = .ok (some g) := by
    rw [topK]
    show (match ([n, x] : List NodeT)[0]? with | none => Rdr.ok none | some y => _) = _
    simp only [List.getElem?_cons_zero, h1, if_true, h3]
    rfl
  have t2 : topK b [n, x] 2 = .ok (some g) := by
    rw [topK, t1]
    show (match ([n, x] : List NodeT)[1]? with | none => Rdr.ok (some g) | some y => _) = _
    simp only [List.getElem?_cons_succ, List.getElem?_cons_zero, if_neg hne]
    rfl
  unfold topR
  show (topK b [n, x] 2).then _ = _
  rw [t2]
  rfl
theorem tab_same {l : List Smp} {ch pl ql : List Int} (h : pl.length = ql.length) : (tabBy (cmpT l ch pl)).length = (tabBy (cmpT l ch ql)).length := by
  unfold tabBy
  simp only [List.length_append, liB_len]
  rw [show (cmpT l ch pl).places.length = (cmpT l ch ql).places.length from h]
  rfl
theorem trk_same {x : TrkT} {ch : Nat} {pl ql : List Int} (h : pl.length = ql.length) : sizeT (trkB x ch pl) = sizeT (trkB x ch ql) := by
  unfold trkB
  rw [sizeT, sizeT]
  simp only [sizeL, leaf_size]
  rw [tab_same h]
theorem kids_same {sc : Int} {T : List TrkT} {ch : Nat} {P Q : List (List Int)} (h : ∀ j, (P.getD j []).length = (Q.getD j []).length) : ∀ i, sizeL (kidsB sc T ch P i) = sizeL (kidsB sc T ch Q i)
  | 0 => rfl
  | i + 1 => by rw [kidsB, kidsB, sizeL_app, sizeL_app, kids_same h i, sizeL, sizeL, trk_same (h i)]; rfl
theorem film_eq (sc : Int) (T : List TrkT) (ch : Nat) (P : List (List Int)) : sizeT (filmB sc T ch P) = 8 + sizeL (kidsB sc T ch P T.length) := by
  unfold filmB
  rw [sizeT, if_neg (by omega)]
  simp only [List.length_nil, Nat.add_zero]
theorem map_mapR {α β : Type} {n : Nat} {f : Nat → α} {g : α → β} {l : List β} (d : β) (hl : l.length = n) (h : ∀ i, i < n → g (f i) = l.getD i d) : (mapR n f).map g = l := by
  apply List.ext_getElem (by rw [List.length_map, mapR_len, hl])
  intro i h1 h2
  have h3 := h i (by omega)
  rw [List.getElem_map]
  simp only [mapR, List.getElem_map, List.getElem_range]
  rw [h3, List.getD_eq_getElem?_getD, List.getElem?_eq_getElem h2]
  rfl
theorem wfF_zero {sc : Int} {T : List TrkT} {D : List (List UInt8)} {ch : Int} (h : wfF sc T D ch = 0) : filF sc T = 0 ∧ (1 ≤ ch ∧ ch ≤ 1000) ∧ datF T D = 0 ∧ headN sc T ch.toNat (layF T D ch.toNat 0).pl + (layF T D ch.toNat 0).out.length ≤ 1000000 := by
  unfold wfF at h
  by_cases h1 : filF sc T ≠ 0
  · rw [if_pos h1] at h; exact absurd h h1
  rw [if_neg h1] at h
  by_cases h2 : ch < 1 ∨ 1000 < ch
  · rw [if_pos h2] at h; omega
  rw [if_neg h2] at h
  by_cases h3 : datF T D ≠ 0
  · rw [if_pos h3] at h; exact absurd h h3
  rw [if_neg h3] at h
  by_cases h4 : 1000000 < headN sc T ch.toNat (layF T D ch.toNat 0).pl + (layF T D ch.toNat 0).out.length
  · rw [if_pos h4] at h; omega
  exact ⟨by omega, by omega, by omega, by omega⟩
theorem trkOf_trO {x : TrkT} {ch : Nat} {pl : List Int} (h : cmpF x.smp (ckL x.smp.length ch) pl = 0) : trkOf (trO x ch pl) = x := by
  show (⟨x.name, x.scale, exS (cmpT x.smp (ckL x.smp.length ch) pl), x.ed⟩ : TrkT) = x
  rw [cmp_exS h]
set_option maxRecDepth 100000 in
theorem film_back {sc : Int} {T : List TrkT} {D : List (List UInt8)} {ch : Int} (h0 : wfF sc T D ch = 0) : rfmF (wfB sc T D ch) = ⟨sc, T, D, 0, 0⟩ := by
  obtain ⟨hfil, hch, hdat, hsz⟩ := wfF_zero h0
  have hB : wfB sc T D ch = bytL (wfL sc T D ch.toNat) := by unfold wfB; rw [if_pos h0]
  rw [hB]
  have c1 : 1 ≤ ch.toNat := by omega
  have c2 : ch.toNat ≤ 1000 := by omega
  generalize ch.toNat = c at *
  clear h0 hB hch
  have hok := filF_ok hfil
  have hr := hok.r
  have h8 := hok.few
  have hdz := datF_zero hdat
  obtain ⟨a, ha⟩ : ∃ a, a = headN sc T c (layF T D c 0).pl := ⟨_, rfl⟩
  have hlay : lay2 sc T D c = layF T D c a := by unfold lay2; rw [ha]
  have hsame := layF_same (T := T) (D := D) (ch := c) (a := a) (b := 0)
  have hfs : 8 + sizeL (kidsB sc T c (layF T D c a).pl T.length) + 8 = a := by
    rw [kids_same hsame.2, ha]
    unfold headN
    rw [film_eq]
  have hL : wfL sc T D c = [filmB sc T c (layF T D c a).pl, dataB (layF T D c a).out] := by unfold wfL; rw [hlay]
  have hbl := bytL_len _ _ _ _ (fau_both sc c (layF T D c a).pl (layF T D c a).out h8)
  rw [both_size, film_eq, ← hL] at hbl
  obtain ⟨b, hb⟩ : ∃ b, b = bytL (wfL sc T D c) := ⟨_, rfl⟩
  rw [← hb] at hbl ⊢
  rw [hL] at hb
  have ho := congrArg List.length hsame.1
  rw [← ha] at hsz
  have hfk := fau_kids sc T c (layF T D c a).pl (dep := 1) (c := 1) (by omega) T.length (by omega)
  obtain ⟨ks, p1, p2, p3, p4⟩ := two_back hb (by omega) hfk (by omega)
  rw [hfs] at p1 p3 p4
  have hCh : ∀ i, i < T.length → ChLie b (D.getD i []) (T.getD i default).smp c ((layF T D c a).pl.getD i []) a b.length := fun i hi => by
    have hly := lyF (D := D) (a := a) c1 (fun i hi => (hr.smp i hi).2) hi
    refine ⟨hly.len, (hdz.2 i hi).symm, by omega, fun j hj => ?_⟩
    obtain ⟨o, q1, q2⟩ := hly.at_ j hj
    have q3 := lies_in p3 q2
    have hjl := (ckN_lt (n := (T.getD i default).smp.length) (k := j) c1).1 hj
    have m1 := szN_mono (T.getD i default).smp (j := j * c) (k := min (j * c + c) (T.getD i default).smp.length) (by omega)
    have m2 := szN_le (T.getD i default).smp (min (j * c + c) (T.getD i default).smp.length)
    have hl := pcB_len (b := D.getD i []) m1 (by rw [← hdz.2 i hi]; exact m2)
    have q4 := q2.2
    have q5 : (cdL T D c i j).length = _ := hl
    exact ⟨a + o, q1, by omega, by omega, q3⟩
  have ht := fun i hi => trF_ok (hok.tracks i hi)
  have hcF : ∀ i, i < T.length → cmpF (T.getD i default).smp (ckL (T.getD i default).smp.length c) ((layF T D c a).pl.getD i []) = 0 := fun i hi => (hCh i hi).cmpF (ht i hi).2.2.1 c1 c2
  have hfR := fil_back (n := .mk kFilm 0 0 8 (8 + sizeL (kidsB sc T c (layF T D c a).pl T.length)) ks) p2 hok.scale (fun i hi => ⟨(ht i hi).2.1, (ht i hi).2.2.2.2, hcF i hi, by
    have h5 := (hr.smp i hi).2
    have h6 := ckN_le (n := (T.getD i default).smp.length) c1
    have h7 := (hCh i hi).len
    have := tabBy_le (l := (T.getD i default).smp) (ch := ckL (T.getD i default).smp.length c) (pl := (layF T D c a).pl.getD i []) h5 (by rw [ckL_len]; omega) (by omega)
    unfold tbO
    omega⟩)
  have hTop := top_back (x := .mk kData 0 (8 + sizeL (kidsB sc T c (layF T D c a).pl T.length)) a b.length []) rfl rfl hfR
  have r1 : firstF (fun i => expF ((mapR T.length fun i => trO (T.getD i default) c ((layF T D c a).pl.getD i [])).getD i default).tab) (mapR T.length fun i => trO (T.getD i default) c ((layF T D c a).pl.getD i [])).length = 0 := firstF_zero (fun i hi => by
    rw [mapR_len] at hi
    show expF ((mapR T.length fun i => trO (T.getD i default) c ((layF T D c a).pl.getD i [])).getD i default).tab = 0
    rw [mapR_getD _ _ hi]
    exact (hCh i hi).expF (ht i hi).2.2.1 c1 c2)
  have r2 : (mapR T.length fun i => trO (T.getD i default) c ((layF T D c a).pl.getD i [])).map trkOf = T := map_mapR default rfl (fun i hi => trkOf_trO (hcF i hi))
  have r4 : (mapR T.length fun i => trO (T.getD i default) c ((layF T D c a).pl.getD i [])).map (fun t => spB b (spS t.tab)) = D := map_mapR [] hdz.1 (fun i hi => (hCh i hi).all (ht i hi).2.2.1 c1 c2)
  have r3 : ((mapR T.length fun i => trO (T.getD i default) c ((layF T D c a).pl.getD i [])).all fun t => (spS t.tab).all (okSp [.mk kFilm 0 0 8 (8 + sizeL (kidsB sc T c (layF T D c a).pl T.length)) ks, .mk kData 0 (8 + sizeL (kidsB sc T c (layF T D c a).pl T.length)) a b.length []])) = true := by
    rw [List.all_eq_true]
    intro t htm
    unfold mapR at htm
    obtain ⟨i, hi, rfl⟩ := List.mem_map.1 htm
    have hi := List.mem_range.1 hi
    rw [List.all_eq_true]
    intro x hx
    have h1 := (hCh i hi).in_ (ht i hi).2.2.1 c1 c2 x hx
    unfold okSp inD
    have h2 : decide ((NodeT.mk kData 0 (8 + sizeL (kidsB sc T c (layF T D c a).pl T.length)) a b.length []).kind = kData ∧ ((NodeT.mk kData 0 (8 + sizeL (kidsB sc T c (layF T D c a).pl T.length)) a b.length []).dat : Int) ≤ x.1 ∧ x.1 + x.2 ≤ ((NodeT.mk kData 0 (8 + sizeL (kidsB sc T c (layF T D c a).pl T.length)) a b.length []).en : Int)) = true := decide_eq_true ⟨rfl, h1.1, h1.2⟩
    simp only [List.any_cons, h2, Bool.true_or, Bool.or_true]
  unfold rfmF
  rw [p1]
  simp only [hTop]
  rw [if_neg (fun hc => hc r1), r2, if_neg (fun hc => hc hfil), if_pos r3, r4]
end Go.Proofs.Ytkbmgakehlmcnaa
namespace Go.Proofs.Ytkbmgakehlmcnaa
open Go.RowKit
abbrev frC (sc : Int) (tv bv : Value) (a : Int) : Array Value := #[.int .i64 sc, tv, bv, .int .i64 a]
def WrG (w : World) (rb : Nat) (sc : Int) (tv bv : Value) (a : Int) (e : Ending) (w' : World) : Prop := e = .returned (.bool false) ∧ Blk w' rb 75 (frC sc tv bv a) ∧ Tw w w' rb none
set_option maxRecDepth 100000 in
set_option maxHeartbeats 4000000 in
theorem wrong_any {w : World} {rb : Nat} {sc : Int} {tv bv : Value} {a0 a : Int} (hB : Blk w rb 75 (frC sc tv bv a0)) :
    Calls Try.prog 53 #[.pointer (some ⟨rb, 0, none⟩), .int .i64 a] w (WrG w rb sc tv bv a) := by
  have HB := hide hB
  have x3 : w.cell? ⟨rb, 3, none⟩ = some (.int .i64 a0) := hB.cell 3
  have f3 := hB.frozen 3
  clear hB
  go_enter Try.func53, Try.ntmps53
  go_wp2_with fail
  go_ret
  exact ⟨rfl, HB.out.set_ 3 (.int .i64 a), Tw.set_ _ _ _ _ _⟩
abbrev dN : NodeT := .mk [] 0 0 0 0 []
structure NdC (w : World) (b : List UInt8) (B : Nat) (y : NodeH) (x : NodeT) : Prop where
  kind : y.box.kind = x.kind
  beg : y.beg = x.beg
  dat : y.dat = x.dat
  en : y.en = x.en
  data : At w 1 e8 y.box.dA y.box.dn y.box.dc (boxOf b x).data
  low : InG (fun k => k < B) y.box.dA
  kids : NdsAt w b (fun k => k < B) y.nA y.nn y.nc x.kids
structure NdO (w : World) (b : List UInt8) (B : Nat) (A : Option Addr) (n c : Nat) (hs : List NodeH) (l : List NodeT) : Prop where
  at_ : At w 8 eNd A n c hs
  low : InG (fun k => k < B) A
  len : l.length = n
  hd : ∀ i, i < n → NdC w b B (hs.getD i default) (l.getD i dN)
theorem kind_boxOf (b : List UInt8) (x : NodeT) : (boxOf b x).kind = x.kind := by cases x; rfl
theorem data_boxOf {b : List UInt8} {x : NodeT} (h : hasKidsB x.kind = false) : (boxOf b x).data = ctB b x := by
  cases x with
  | mk k f g d e l =>
    have h2 : hasKidsB k = false := h
    show (if hasKidsB k = true then [] else cutB b d e) = _
    rw [h2]; rfl
theorem NdC.below {w w' : World} {b : List UInt8} {B : Nat} {y : NodeH} {x : NodeT} (h : NdC w b B y x) (hB : Below B w w') : NdC w' b B y x :=
  ⟨h.kind, h.beg, h.dat, h.en, h.data.good h.low hB.block, h.low, h.kids.good hB.block (fun _ hk => hk)⟩
theorem NdO.below {w w' : World} {b : List UInt8} {B : Nat} {A : Option Addr} {n c : Nat} {hs : List NodeH} {l : List NodeT} (h : NdO w b B A n c hs l) (hB : Below B w w') : NdO w' b B A n c hs l :=
  ⟨h.at_.good h.low hB.block, h.low, h.len, fun i hi => (h.hd i hi).below hB⟩
theorem nds_open {w : World} {b : List UInt8} {B : Nat} {A : Option Addr} {n c : Nat} {l : List NodeT} (h : NdsAt w b (fun k => k < B) A n c l) : ∃ hs, NdO w b B A n c hs l := by
  cases h with
  | mk hs l h hg hl h1 h2 =>
    have hn := h.len
    refine ⟨hs, h, hg, by omega, fun i hi => ?_⟩
    have e1 : hs[i]? = some (hs.getD i default) := by rw [List.getD_eq_getElem?_getD, List.getElem?_eq_getElem (by omega)]; rfl
    have e2 : l[i]? = some (l.getD i dN) := by rw [List.getD_eq_getElem?_getD, List.getElem?_eq_getElem (by omega)]; rfl
    obtain ⟨⟨⟨k1, _, k3, k4⟩, _⟩, b1, b2, b3⟩ := h1 i _ _ e1 e2
    exact ⟨k1.trans (kind_boxOf b _), b1, b2, b3, k3, k4, h2 i _ _ e1 e2⟩
def HasG (w : World) (rb : Nat) (sc : Int) (tv bv : Value) (r : Rdr NodeT) (e : Ending) (w' : World) : Prop :=
  (∀ x, r = .ok x → e = .returned (.bool true) ∧ w = w') ∧ (∀ a : Nat, r = .bad a → WrG w rb sc tv bv (a : Int) e w')
theorem kidR_ok {l : List NodeT} {i : Nat} {k : List UInt8} {en : Nat} {x : NodeT} (h : kidR l i k en = .ok x) : i < l.length ∧ l.getD i dN = x ∧ x.kind = k := by
  unfold kidR at h
  cases hx : l[i]? with
  | none => rw [hx] at h; cases h
  | some y =>
    rw [hx] at h
    simp only at h
    split at h
    · rename_i hk
      cases h
      exact ⟨get_lt hx, by rw [List.getD_eq_getElem?_getD, hx]; rfl, hk⟩
    · cases h
theorem has_bad {w w' : World} {rb : Nat} {sc : Int} {tv bv : Value} {r : Rdr NodeT} {a : Nat} {e : Ending} (hr : r = .bad a) (h : WrG w rb sc tv bv (a : Int) e w') : HasG w rb sc tv bv r e w' :=
  ⟨fun x hx => (by rw [hr] at hx; cases hx), fun a' ha => by rw [hr] at ha; cases ha; exact h⟩
set_option linter.unusedVariables false in
set_option maxRecDepth 100000 in
set_option maxHeartbeats 4000000 in
theorem has_any {w : World} {rb : Nat} {sc : Int} {tv bv : Value} {a0 : Int} {b : List UInt8} {B : Nat} {A : Option Addr} {n c : Nat} {hs : List NodeH} {l : List NodeT} (i : Nat) (iz : Int) (hz : iz = (i : Int)) (k : List UInt8) (en : Nat)
    (hB : Blk w rb 75 (frC sc tv bv a0)) (h : NdO w b B A n c hs l) :
    Calls Try.prog 54 #[.pointer (some ⟨rb, 0, none⟩), .slice A n c, .int .i64 iz, .string ⟨k.toArray⟩, .int .i64 (en : Int)] w (HasG w rb sc tv bv (kidR l i k en)) := by
  subst hz
  have HW := hide (fun (a : Nat) => wrong_any (a := (a : Int)) hB)
  have hln := h.len
  have hbd := h.at_.bound
  have H := hide h
  clear hB h
  by_cases hi : i < n
  · obtain ⟨bA, oA, rfl, _⟩ := H.out.at_.addr (by omega)
    have hd := H.out.hd i hi
    have hk1 := hd.kind
    have hk2 := hd.beg
    have c0 := H.out.at_.cellK hi default 0 _ rfl
    have c4 := H.out.at_.cellK hi default 4 _ rfl
    have HR : Hid (kidR l i k en = if (l.getD i dN).kind = k then .ok (l.getD i dN) else .bad (l.getD i dN).beg) := hide (by
      unfold kidR
      rw [List.getD_eq_getElem?_getD, List.getElem?_eq_getElem (by omega)]; rfl)
    clear hd
    rw [hk1] at c0
    rw [hk2] at c4
    clear hk1 hk2
    generalize l.getD i dN = x at *
    generalize hkx : x.kind = kx at *
    generalize hbx : x.beg = gx at *
    generalize kidR l i k en = R at *
    have i1 : ¬ ((n : Int) ≤ (i : Int)) := by omega
    have i0 : (0 : Int) ≤ (i : Int) := by omega
    have i2 : (i : Int) < (n : Int) := by omega
    have i3 : ¬ ((i : Int) ≥ (n : Int)) := by omega
    have c0' : w.cell? ⟨bA, oA + i * 8, none⟩ = some (.string ⟨kx.toArray⟩) := c0
    clear c0
    by_cases hk : kx = k
    · subst hk
      have HE : Hid (R = .ok x) := hide (by rw [HR.out, if_pos rfl])
      have hne : (kx == kx) = true := by simp
      go_enter Try.func54, Try.ntmps54
      go_wp2_with fail
      go_ret
      exact ⟨fun y hy => ⟨rfl, rfl⟩, fun a ha => by rw [HE.out] at ha; cases ha⟩
    · have HE : Hid (R = .bad gx) := hide (by rw [HR.out, if_neg hk])
      have hne : (kx == k) = false := by simpa using hk
      go_enter Try.func54, Try.ntmps54
      go_wp2_with ((go_at_call 53; with_reducible refine (HW.out gx).mono ?_); rintro e w' ⟨rfl, p1, p2⟩)
      go_ret
      exact has_bad HE.out ⟨rfl, p1, p2⟩
  · have HE : Hid (kidR l i k en = .bad en) := hide (by unfold kidR; rw [List.getElem?_eq_none (by omega)])
    have i1 : (n : Int) ≤ (i : Int) := by omega
    have i3 : (i : Int) ≥ (n : Int) := by omega
    go_enter Try.func54, Try.ntmps54
    go_wp2_with ((go_at_call 53; with_reducible refine (HW.out en).mono ?_); rintro e w' ⟨rfl, p1, p2⟩)
    go_ret
    exact has_bad HE.out ⟨rfl, p1, p2⟩
def InH (G : Nat → Prop) (A : Option Addr) (n : Nat) : Prop := 0 < n → ∀ a, A = some a → G a.block
theorem InH.mono {G H : Nat → Prop} {A : Option Addr} {n : Nat} (h : InH G A n) (hi : ∀ k, G k → H k) : InH H A n := fun hn a ha => hi _ (h hn a ha)
theorem At.goodH {α : Type} {w w' : World} {sz : Nat} {enc : α → List Value} {A : Option Addr} {n c : Nat} {xs : List α} {G : Nat → Prop} (h : At w sz enc A n c xs) (hA : InH G A n) (hG : ∀ k, G k → w'.heap[k]? = w.heap[k]?) : At w' sz enc A n c xs :=
  ⟨h.len, h.le, h.max, h.none_, fun k x hx => by
    have hn : 0 < n := by have := get_lt hx; have := h.len; omega
    obtain ⟨b, off, e, hc⟩ := h.cells k x hx
    refine ⟨b, off, e, fun j u hu => ?_⟩
    have h3 := hc j u hu
    have h4 := hG b (hA hn _ e)
    unfold World.cell? at h3 ⊢
    simp only at h3 ⊢
    rw [h4]
    exact h3⟩
structure TbH where
  start : Int
  sA : Option Addr
  sn : Nat
  sc : Nat
  hA : Option Addr
  hn : Nat
  hc : Nat
  zA : Option Addr
  zn : Nat
  zc : Nat
  kA : Option Addr
  kn : Nat
  kc : Nat
  cA : Option Addr
  cn : Nat
  cc : Nat
  pA : Option Addr
  pn : Nat
  pc : Nat
deriving Inhabited
abbrev eTb (x : TbH) : List Value := [.int .i64 x.start, .slice x.sA x.sn x.sc, .slice x.hA x.hn x.hc, .slice x.zA x.zn x.zc, .slice x.kA x.kn x.kc, .slice x.cA x.cn x.cc, .slice x.pA x.pn x.pc]
theorem len_eTb (x : TbH) : (eTb x).length = 7 := rfl
theorem one_eTb (x : TbH) : ∀ u ∈ eTb x, u.oneCell' = true := by
  intro u hu
  simp at hu
  rcases hu with rfl | rfl | rfl | rfl | rfl | rfl | rfl <;> rfl
structure TbOk (w : World) (G : Nat → Prop) (y : TbH) (t : Tab) : Prop where
  st : y.start = t.start
  at_ : TabAt w y.sA y.sn y.sc y.hA y.hn y.hc y.zA y.zn y.zc y.kA y.kn y.kc y.cA y.cn y.cc y.pA y.pn y.pc t
  l1 : InH G y.sA y.sn
  l2 : InH G y.hA y.hn
  l3 : InH G y.zA y.zn
  l4 : InH G y.kA y.kn
  l5 : InH G y.cA y.cn
  l6 : InH G y.pA y.pn
theorem TbOk.good {w w' : World} {G H : Nat → Prop} {y : TbH} {t : Tab} (h : TbOk w G y t) (hG : ∀ k, G k → w'.heap[k]? = w.heap[k]?) (hi : ∀ k, G k → H k) : TbOk w' H y t :=
  ⟨h.st, ⟨h.at_.steps.goodH h.l1 hG, h.at_.shifts.goodH h.l2 hG, h.at_.sizes.goodH h.l3 hG, h.at_.keys.goodH h.l4 hG, h.at_.nok, h.at_.chunks.goodH h.l5 hG, h.at_.places.goodH h.l6 hG⟩, h.l1.mono hi, h.l2.mono hi, h.l3.mono hi, h.l4.mono hi, h.l5.mono hi, h.l6.mono hi⟩
theorem TbB.cells {W : World} {B : Nat} {v : Value} {t : Tab} (h : TbB W B v t) : ∃ y : TbH, v = .agg #[.int .i64 y.start, .slice y.sA y.sn y.sc, .slice y.hA y.hn y.hc, .slice y.zA y.zn y.zc, .slice y.kA y.kn y.kc, .slice y.cA y.cn y.cc, .slice y.pA y.pn y.pc] ∧ TbOk W (fun k => B ≤ k ∧ k < W.heap.size) y t := by
  obtain ⟨sA, sn, sc, hA, hn, hc, zA, zn, zc, kA, kn, kc, cA, cn, cc, pA, pn, pc, hv, ht, hb⟩ := h
  exact ⟨⟨t.start, sA, sn, sc, hA, hn, hc, zA, zn, zc, kA, kn, kc, cA, cn, cc, pA, pn, pc⟩, hv, rfl, ht,
    fun h0 a ha => ⟨hb a (.inl ha), ht.steps.blk_lt len_e2 (by omega) h0 a ha⟩, fun h0 a ha => ⟨hb a (.inr (.inl ha)), ht.shifts.blk_lt len_e2 (by omega) h0 a ha⟩,
    fun h0 a ha => ⟨hb a (.inr (.inr (.inl ha))), ht.sizes.blk_lt len_e64 (by omega) h0 a ha⟩, fun h0 a ha => ⟨hb a (.inr (.inr (.inr (.inl ha)))), ht.keys.blk_lt len_e64 (by omega) h0 a ha⟩,
    fun h0 a ha => ⟨hb a (.inr (.inr (.inr (.inr (.inl ha))))), ht.chunks.blk_lt len_e2 (by omega) h0 a ha⟩, fun h0 a ha => ⟨hb a (.inr (.inr (.inr (.inr (.inr ha))))), ht.places.blk_lt len_e64 (by omega) h0 a ha⟩⟩
structure TkG (w : World) (G : Nat → Prop) (y : TrkH) (x : TrkT) : Prop where
  ok : TkOk w y x
  l1 : InH G y.sA y.sn
  l2 : InH G y.eA y.en
theorem TkG.good {w w' : World} {G H : Nat → Prop} {y : TrkH} {x : TrkT} (h : TkG w G y x) (hG : ∀ k, G k → w'.heap[k]? = w.heap[k]?) (hi : ∀ k, G k → H k) : TkG w' H y x :=
  ⟨⟨h.ok.1, h.ok.2.1, h.ok.2.2.1.goodH h.l1 hG, h.ok.2.2.2.goodH h.l2 hG⟩, h.l1.mono hi, h.l2.mono hi⟩
theorem Own.apart {α β : Type} {w : World} {b1 b2 : Nat} {t1 t2 : TypeId} {s1 s2 : Nat} {e1 : α → List Value} {e2 : β → List Value} {v1 v2 : Value} {x1 : List α} {x2 : List β} (h1 : Own w b1 t1 s1 e1 v1 x1) (h2 : Own w b2 t2 s2 e2 v2 x2) (hne : t1 ≠ t2) : ∀ g, v1.ownBlock = some g → v2.ownBlock ≠ some g := fun g hg hg2 => by
  obtain ⟨c, fz, hc⟩ := Go.Lib.ownsRow_kind h1 g hg
  obtain ⟨c', fz', hc'⟩ := Go.Lib.ownsRow_kind h2 g hg2
  rw [hc] at hc'
  injection hc' with e
  injection e with _ e _
  exact hne e
structure RdI (w : World) (rb : Nat) (sc : Int) (tv bv : Value) (a : Int) (hs : List TrkH) (l : List TrkT) (ts : List TbH) (tl : List Tab) : Prop where
  blk : Blk w rb 75 (frC sc tv bv a)
  trk : Own w (rb + 1) 47 4 eTk tv hs
  tab : Own w (rb + 1) 82 7 eTb bv ts
  len : hs.length = l.length
  lenB : ts.length = tl.length
  els : ∃ G : Nat → Prop, (∀ k, G k → rb < k ∧ k < w.heap.size ∧ tv.ownBlock ≠ some k ∧ bv.ownBlock ≠ some k) ∧ (∀ (i : Nat) (y : TrkH) (x : TrkT), hs[i]? = some y → l[i]? = some x → TkG w G y x) ∧ (∀ (i : Nat) (y : TbH) (x : Tab), ts[i]? = some y → tl[i]? = some x → TbOk w G y x)
theorem RdI.new {w : World} {rb : Nat} {sc a : Int} (h : Blk w rb 75 (frC sc (.slice none 0 0) (.slice none 0 0) a)) : RdI w rb sc (.slice none 0 0) (.slice none 0 0) a [] [] [] [] :=
  ⟨h, Own.nil _ _ _ _ _, Own.nil _ _ _ _ _, rfl, rfl, fun _ => False, fun _ h => h.elim, fun _ _ _ h _ => (by simp at h), fun _ _ _ h _ => (by simp at h)⟩
theorem RdI.tw {w w' : World} {rb : Nat} {sc sc' : Int} {tv bv : Value} {a a' : Int} {hs : List TrkH} {l : List TrkT} {ts : List TbH} {tl : List Tab} (h : RdI w rb sc tv bv a hs l ts tl) (hT : Tw w w' rb none) (hb : Blk w' rb 75 (frC sc' tv bv a')) : RdI w' rb sc' tv bv a' hs l ts tl := by
  obtain ⟨_, h2, h3, h4, h5, G, g1, g2, g3⟩ := h
  have hk : ∀ k, G k → w'.heap[k]? = w.heap[k]? := fun k hk => hT.block k (g1 k hk).2.1 (by have := (g1 k hk).1; omega) (by simp)
  exact ⟨hb, h2.tw hT (fun e => by have := (h2.lt _ e).1; omega) (fun g hg e => by cases e), h3.tw hT (fun e => by have := (h3.lt _ e).1; omega) (fun g hg e => by cases e), h4, h5, G,
    fun k hk => ⟨(g1 k hk).1, Nat.lt_of_lt_of_le (g1 k hk).2.1 hT.size, (g1 k hk).2.2⟩, fun i y x hy hx => (g2 i y x hy hx).good hk (fun _ h => h), fun i y x hy hx => (g3 i y x hy hx).good hk (fun _ h => h)⟩
theorem RdI.ext {w w' : World} {rb : Nat} {sc : Int} {tv bv : Value} {a : Int} {hs : List TrkH} {l : List TrkT} {ts : List TbH} {tl : List Tab} (h : RdI w rb sc tv bv a hs l ts tl) (he : Ext w w') : RdI w' rb sc tv bv a hs l ts tl :=
  h.tw (Tw.of_ext he _ _) (h.blk.ext he)
theorem RdI.table {w w1 w2 w3 : World} {rb : Nat} {sc : Int} {tv bv bv' : Value} {a : Int} {hs : List TrkH} {l : List TrkT} {ts : List TbH} {tl : List Tab} {y : TbH} {t : Tab} {G' : Nat → Prop} (h : RdI w rb sc tv bv a hs l ts tl) (he : Ext w w1)
    (hy : TbOk w G' y t) (hG : ∀ k, G' k → rb < k ∧ k < w.heap.size ∧ tv.ownBlock ≠ some k ∧ bv.ownBlock ≠ some k) (ho : Own w2 (rb + 1) 82 7 eTb bv' (ts ++ [y])) (hg : w1.grownBy w2 bv.ownBlock) (hr : bv'.ownBlock = bv.ownBlock ∨ bv'.ownBlock = some w1.heap.size)
    (hT : Tw w2 w3 rb none) (hb : Blk w3 rb 75 (frC sc tv bv' a)) : RdI w3 rb sc tv bv' a hs l (ts ++ [y]) (tl ++ [t]) := by
  obtain ⟨h1, h2, h3, h4, h5, G, g1, g2, g3⟩ := h
  have hsz := he.size
  have hsz2 := hg.size
  have hsz3 := hT.size
  have hrb := h1.lt
  have hap := h2.apart h3 (by decide)
  have hb2 : ∀ k, k < w.heap.size → bv.ownBlock ≠ some k → k ≠ rb → w3.heap[k]? = w.heap[k]? := fun k hk hn hkr => (hT.block k (by omega) hkr (by simp)).trans ((hg.block k (by omega) (fun e => hn e.symm)).trans (he.block k hk))
  have hk2 : ∀ k, (G k ∨ G' k) → rb < k ∧ k < w.heap.size ∧ tv.ownBlock ≠ some k ∧ bv.ownBlock ≠ some k := fun k hk => by
    rcases hk with hk | hk
    · exact g1 k hk
    · exact hG k hk
  refine ⟨hb, ?_, ho.tw hT (fun e => by have := (ho.lt _ e).1; omega) (fun g hg e => by cases e), h4, by simp [h5], fun k => G k ∨ G' k, fun k hk => ?_, fun i y' x' hy' hx' => ?_, fun i y' x' hy' hx' => ?_⟩
  · refine (((h2.ext he).kept hg ?_).tw hT (fun e => by have := (h2.lt _ e).1; omega) (fun g hg e => by cases e))
    cases hv : tv.ownBlock with
    | none => exact .inl rfl
    | some g => exact .inr (fun e => hap g hv e.symm)
  · obtain ⟨k1, k2, k3, k4⟩ := hk2 k hk
    refine ⟨k1, by omega, k3, ?_⟩
    rcases hr with hr | hr
    · rw [hr]; exact k4
    · rw [hr]; intro e; injection e with e; omega
  · exact (g2 i y' x' hy' hx').good (fun k hk => hb2 k (g1 k hk).2.1 (g1 k hk).2.2.2 (by have := (g1 k hk).1; omega)) (fun _ hk => .inl hk)
  · rcases get_snoc hy' with hy1 | ⟨hy1, rfl⟩
    · have hi := get_lt hy1
      have hx1 : tl[i]? = some x' := by
        rw [List.getElem?_append_left (by omega)] at hx'
        exact hx'
      exact (g3 i y' x' hy1 hx1).good (fun k hk => hb2 k (g1 k hk).2.1 (g1 k hk).2.2.2 (by have := (g1 k hk).1; omega)) (fun _ hk => .inl hk)
    · have hx1 : x' = t := by
        rcases get_snoc hx' with hx1 | ⟨_, hx1⟩
        · have := get_lt hx1; omega
        · exact hx1
      subst hx1
      exact hy.good (fun k hk => hb2 k (hG k hk).2.1 (hG k hk).2.2.2 (by have := (hG k hk).1; omega)) (fun _ hk => .inr hk)
theorem RdI.track {w w1 w2 w3 : World} {rb : Nat} {sc : Int} {tv tv' bv : Value} {a : Int} {hs : List TrkH} {l : List TrkT} {ts : List TbH} {tl : List Tab} {y : TrkH} {t : TrkT} {G' : Nat → Prop} (h : RdI w rb sc tv bv a hs l ts tl) (he : Ext w w1)
    (hy : TkG w G' y t) (hG : ∀ k, G' k → rb < k ∧ k < w.heap.size ∧ tv.ownBlock ≠ some k ∧ bv.ownBlock ≠ some k) (ho : Own w2 (rb + 1) 47 4 eTk tv' (hs ++ [y])) (hg : w1.grownBy w2 tv.ownBlock) (hr : tv'.ownBlock = tv.ownBlock ∨ tv'.ownBlock = some w1.heap.size)
    (hT : Tw w2 w3 rb none) (hb : Blk w3 rb 75 (frC sc tv' bv a)) : RdI w3 rb sc tv' bv a (hs ++ [y]) (l ++ [t]) ts tl := by
  obtain ⟨h1, h2, h3, h4, h5, G, g1, g2, g3⟩ := h
  have hsz := he.size
  have hsz2 := hg.size
  have hsz3 := hT.size
  have hrb := h1.lt
  have hap := h2.apart h3 (by decide)
  have hb2 : ∀ k, k < w.heap.size → tv.ownBlock ≠ some k → k ≠ rb → w3.heap[k]? = w.heap[k]? := fun k hk hn hkr => (hT.block k (by omega) hkr (by simp)).trans ((hg.block k (by omega) (fun e => hn e.symm)).trans (he.block k hk))
  have hk2 : ∀ k, (G k ∨ G' k) → rb < k ∧ k < w.heap.size ∧ tv.ownBlock ≠ some k ∧ bv.ownBlock ≠ some k := fun k hk => by
    rcases hk with hk | hk
    · exact g1 k hk
    · exact hG k hk
  refine ⟨hb, ho.tw hT (fun e => by have := (ho.lt _ e).1; omega) (fun g hg e => by cases e), ?_, by simp [h4], h5, fun k => G k ∨ G' k, fun k hk => ?_, fun i y' x' hy' hx' => ?_, fun i y' x' hy' hx' => ?_⟩
  · refine (((h3.ext he).kept hg ?_).tw hT (fun e => by have := (h3.lt _ e).1; omega) (fun g hg e => by cases e))
    cases hv : bv.ownBlock with
    | none => exact .inl rfl
    | some g => exact .inr (fun e => hap g e.symm hv)
  · obtain ⟨k1, k2, k3, k4⟩ := hk2 k hk
    refine ⟨k1, by omega, ?_, k4⟩
    rcases hr with hr | hr
    · rw [hr]; exact k3
    · rw [hr]; intro e; injection e with e; omega
  · rcases get_snoc hy' with hy1 | ⟨hy1, rfl⟩
    · have hi := get_lt hy1
      have hx1 : l[i]? = some x' := by
        rw [List.getElem?_append_left (by omega)] at hx'
        exact hx'
      exact (g2 i y' x' hy1 hx1).good (fun k hk => hb2 k (g1 k hk).2.1 (g1 k hk).2.2.1 (by have := (g1 k hk).1; omega)) (fun _ hk => .inl hk)
    · have hx1 : x' = t := by
        rcases get_snoc hx' with hx1 | ⟨_, hx1⟩
        · have := get_lt hx1; omega
        · exact hx1
      subst hx1
      exact hy.good (fun k hk => hb2 k (hG k hk).2.1 (hG k hk).2.2.1 (by have := (hG k hk).1; omega)) (fun _ hk => .inr hk)
  · exact (g3 i y' x' hy' hx').good (fun k hk => hb2 k (g1 k hk).2.1 (g1 k hk).2.2.1 (by have := (g1 k hk).1; omega)) (fun _ hk => .inl hk)
end Go.Proofs.Ytkbmgakehlmcnaa
