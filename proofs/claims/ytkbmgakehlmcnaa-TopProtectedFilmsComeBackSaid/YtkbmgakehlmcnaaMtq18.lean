/- Walk: nodes of the parser (program). Conditions as stated. -/
import Derived.Test.YtkbmgakehlmcnaaMtq16
import Derived.Test.YtkbmgakehlmcnaaMtq01
import Derived.Test.YtkbmgakehlmcnaaMtq00
import Derived.Test.YtkbmgakehlmcnaaMtq17
import Derived.Test.YtkbmgakehlmcnaaMtq07
import Derived.Deep.DeepCutAuto
open List (setIfInBounds_toArray set_cons_zero set_cons_succ)
namespace Go.Proofs.Ytkbmgakehlmcnaa
open Go.RowKit
theorem parP_count (b : List UInt8) : ∀ (m f t depth cnt : Nat) (l : List NodeT) (c : Nat), parP b m f t depth cnt = .ok l c → cnt ≤ 2000 → c ≤ 2000 ∧ l.length ≤ t - f
  | 0, f, t, depth, cnt, l, c, h, hc => by
    unfold parP at h; cases h; exact ⟨hc, Nat.zero_le _⟩
  | m + 1, f, t, depth, cnt, l, c, h, hc => by
    unfold parP at h
    split at h
    · cases h; exact ⟨hc, Nat.zero_le _⟩
    · split at h
      · cases h
      · cases hh : headP b f t with
        | none => rw [hh] at h; cases h
        | some r =>
          obtain ⟨k, fo, d, e⟩ := r
          rw [hh] at h
          simp only at h
          obtain ⟨h1, h2, h3, _⟩ := headP_some hh
          have key : ∀ (c1 : Nat) (y : NodeT), c1 ≤ 2000 → (parP b m e t depth c1).pre [y] = .ok l c → c ≤ 2000 ∧ l.length ≤ t - f := by
            intro c1 y hc1 hp
            cases hq : parP b m e t depth c1 with
            | err a g => rw [hq] at hp; cases hp
            | ok r2 c2 =>
              rw [hq] at hp
              have ih := parP_count b m e t depth c1 r2 c2 hq hc1
              simp only [ParR.pre, ParR.ok.injEq] at hp
              obtain ⟨h4, h5⟩ := hp
              subst h4 h5
              exact ⟨ih.1, by simp; omega⟩
          split at h
          · cases hq : parP b m d e (depth + 1) (cnt + 1) with
            | err a g => rw [hq] at h; cases h
            | ok kids c1 =>
              rw [hq] at h
              exact key c1 _ (parP_count b m d e (depth + 1) (cnt + 1) kids c1 hq (by omega)).1 h
          · exact key (cnt + 1) _ (by omega) h
theorem parF_count {b : List UInt8} {f t depth cnt : Nat} {l : List NodeT} {c : Nat} (h : parF b f t depth cnt = .ok l c) (hc : cnt ≤ 2000) : c ≤ 2000 ∧ l.length ≤ t - f := parP_count b _ f t depth cnt l c h hc
theorem Try.info5 : (Try.prog.info? 5).map (fun i => (i.zero, i.size, i.bytes)) = some (some (.int .u8 0), 1, 1) := by kernel_rfl
theorem Try.info122 : (Try.prog.info? 122).map (fun i => (i.zero, i.size, i.bytes)) = some (some (.agg #[.string ByteArray.empty, .int .i64 0, .slice none 0 0, .slice none 0 0, .int .i64 0, .int .i64 0, .int .i64 0, .slice none 0 0]), 8, 120) := by kernel_rfl
theorem Try.info66 : (Try.prog.info? 66).map (fun i => (i.zero, i.size, i.bytes)) = some (some (.agg #[.string ByteArray.empty, .int .i64 0, .slice none 0 0, .slice none 0 0]), 4, 72) := by kernel_rfl
def NodGives (w : World) (gp : Nat) (A : Option Addr) (n c : Nat) (b : List UInt8) (r : ParR) (e : Ending) (w' : World) : Prop :=
  Tw w w' gp none ∧ (∃ cnt : Nat, Blk w' gp 119 #[.slice A n c, .int .i64 (cnt : Int)] ∧ ∀ l cc, r = .ok l cc → cnt = cc) ∧
  (∀ a f, r = .err a f → e = .returned (.tuple #[.slice none 0 0, .int .i64 (a : Int), .int .i64 f])) ∧
  (∀ l cc, r = .ok l cc → ∃ N c2, e = .returned (.tuple #[.slice N l.length c2, .int .i64 0, .int .i64 0]) ∧ NdsAt w' b (fun k => w.heap.size ≤ k ∧ k < w'.heap.size) N l.length c2 l)
def NodStmt (m : Nat) : Prop := ∀ {gp f t depth cnt : Nat} {A : Option Addr} {n c : Nat} {b : List UInt8} {w : World}, t - f ≤ m → Blk w gp 119 #[.slice A n c, .int .i64 (cnt : Int)] → At w 1 e8 A n c b → (0 < n → ∀ a, A = some a → a.block ≠ gp) →
  f ≤ t → t ≤ n → n ≤ 1000000 → depth ≤ 8 → cnt ≤ 2000 → Calls Try.prog 52 #[.pointer (some ⟨gp, 0, none⟩), .int .i64 (f : Int), .int .i64 (t : Int), .int .i64 (depth : Int)] w (NodGives w gp A n c b (parF b f t depth cnt))
theorem NodGives.large {w w' : World} {gp : Nat} {A : Option Addr} {n c : Nat} {b : List UInt8} {r : ParR} {cnt a : Nat} {f : Int} (hr : r = .err a f) (hT : Tw w w' gp none) (hB : Blk w' gp 119 #[.slice A n c, .int .i64 (cnt : Int)]) :
    NodGives w gp A n c b r (.returned (.tuple #[.slice none 0 0, .int .i64 (a : Int), .int .i64 f])) w' :=
  ⟨hT, ⟨cnt, hB, fun l cc h => by rw [hr] at h; cases h⟩, (fun a f h => by rw [hr] at h; cases h; rfl), fun l cc h => by rw [hr] at h; cases h⟩
structure NdI (w wr : World) (gp : Nat) (A : Option Addr) (n c : Nat) (b : List UInt8) (f t depth cnt g cn : Nat) (v : Value) (hs : List NodeH) (l : List NodeT) : Prop where
  f1 : f ≤ g
  f2 : g ≤ t
  cnle : cn ≤ 2000
  par : parF b f t depth cnt = (parF b g t depth cn).pre l
  few : l.length ≤ g
  blk : Blk wr gp 119 #[.slice A n c, .int .i64 (cn : Int)]
  row : Rw wr w.heap.size 122 8 eNd (NdOk wr b) v hs l
  tw : Tw w wr gp none
theorem NdI.fin {w wr : World} {gp : Nat} {A : Option Addr} {n c : Nat} {b : List UInt8} {f t depth cnt cn : Nat} {N : Option Addr} {k c2 : Nat} {hs : List NodeH} {l : List NodeT} (h : NdI w wr gp A n c b f t depth cnt t cn (.slice N k c2) hs l) :
    NodGives w gp A n c b (parF b f t depth cnt) (.returned (.tuple #[.slice N k c2, .int .i64 0, .int .i64 0])) wr := by
  have hp : parF b f t depth cnt = .ok l cn := by rw [h.par, parF_end (Nat.le_refl _)]; simp [ParR.pre]
  have hat := h.row.own.atS len_eNd
  have hk : l.length = k := by rw [← h.row.len]; exact hat.len
  refine ⟨h.tw, ⟨cn, h.blk, fun l' cc e => by rw [hp] at e; cases e; rfl⟩, (fun a f e => by rw [hp] at e; cases e), fun l' cc e => ?_⟩
  rw [hp] at e
  cases e
  obtain ⟨G, h3, h4⟩ := h.row.els
  refine ⟨N, c2, by rw [hk], ?_⟩
  rw [hk]
  exact .mk hs l hat (fun a ha => by subst ha; exact h.row.own.lt a.block rfl) h.row.len (fun i y x hy hx => (h4 i y x hy hx).1.good (fun _ _ => rfl) (fun q hq => ⟨(h3 q hq).1, (h3 q hq).2.1⟩)) (fun i y x hy hx => (h4 i y x hy hx).2.good (fun _ _ => rfl) (fun q hq => ⟨(h3 q hq).1, (h3 q hq).2.1⟩))
theorem parP_err (b : List UInt8) : ∀ (m f t depth cnt a : Nat) (g : Int), parP b m f t depth cnt = .err a g → g = 2 ∨ g = 10
  | 0, f, t, depth, cnt, a, g, h => by unfold parP at h; cases h
  | m + 1, f, t, depth, cnt, a, g, h => by
    unfold parP at h
    split at h
    · cases h
    · split at h
      · cases h; exact .inl rfl
      · cases hh : headP b f t with
        | none => rw [hh] at h; cases h; exact .inr rfl
        | some r =>
          obtain ⟨k, fo, d, e⟩ := r
          rw [hh] at h
          simp only at h
          have key : ∀ (c1 : Nat) (y : NodeT), (parP b m e t depth c1).pre [y] = .err a g → g = 2 ∨ g = 10 := by
            intro c1 y hp
            cases hq : parP b m e t depth c1 with
            | ok r2 c2 => rw [hq] at hp; cases hp
            | err a2 g2 =>
              have := parP_err b m e t depth c1 a2 g2 hq
              rw [hq] at hp
              cases hp
              exact this
          split at h
          · cases hq : parP b m d e (depth + 1) (cnt + 1) with
            | err a2 g2 =>
              have := parP_err b m d e (depth + 1) (cnt + 1) a2 g2 hq
              rw [hq] at h
              cases h
              exact this
            | ok kids c1 => rw [hq] at h; exact key c1 _ h
          · exact key (cnt + 1) _ h
theorem parF_err {b : List UInt8} {f t depth cnt a : Nat} {g : Int} (h : parF b f t depth cnt = .err a g) : (g != 0) = true := by
  rcases parP_err b _ f t depth cnt a g h with rfl | rfl <;> rfl
structure KdI (w4 wi : World) (gn : Nat) (k : List UInt8) (fo : Int) (g d x : Nat) (N : Option Addr) (kn c2 : Nat) (hs3 : List NodeH) (j : Nat) (vk : Value) : Prop where
  blk : Blk wi gn 122 #[.string ⟨k.toArray⟩, .int .i64 fo, .slice none 0 0, vk, .int .i64 (g : Int), .int .i64 (d : Int), .int .i64 (x : Int), .slice N kn c2]
  own : Own wi w4.heap.size 66 4 eBx vk ((hs3.take j).map NodeH.box)
  tw : Tw w4 wi gn none
set_option linter.unusedVariables false in
set_option linter.unusedSimpArgs false in
set_option maxRecDepth 100000 in
set_option maxHeartbeats 8000000 in
theorem nodes_step (m : Nat) (ih : ∀ m', m' < m → NodStmt m') : NodStmt m := by
  intro gp f t depth cnt A n c b w hm hp hb hAg h1 h2 h3 h4 h5
  have HB := hide hb
  have P0 := hide hp
  have hg0 := hp.lt
  have HA : Hid (0 < n → ∀ a, A = some a → a.block < w.heap.size) := hide (fun hn0 a ha => by
    subst ha
    obtain ⟨b1, o1, e, hc⟩ := hb.addr hn0
    have hl := hb.len
    have := cell_lt (hc 0 (by omega) 0 _ rfl)
    injection e with e
    rw [e]
    simpa using this)
  have HAG := hide hAg
  have IH := hide ih
  have hdep : (8 : Int) ≤ (depth : Int) ↔ depth = 8 := by omega
  clear ih hdep
  have r0 : NdI w w gp A n c b f t depth cnt f cnt (.slice none 0 0) [] [] := ⟨Nat.le_refl _, h1, h5, (pre_nil _).symm, Nat.zero_le _, hp, ⟨Own.nil _ _ _ _ _, rfl, fun _ => False, (fun k h => h.elim), fun i y x hy _ => by simp at hy⟩, Tw.refl _ _ _⟩
  have R0 := hide r0
  clear r0 hp hb hAg
  go_enter Try.func52, Try.ntmps52
  go_wp2_with fail
  go_loopw [1, 11] (fun r1 r11 wr => ∃ (g cn : Nat) (hs : List NodeH) (l : List NodeT), r1 = .int .i64 (g : Int) ∧ Hid (NdI w wr gp A n c b f t depth cnt g cn r11 hs l)) (fun r1 _ _ => t - (intOf r1).toNat)
  case atStart => exact ⟨f, cnt, [], [], rfl, R0⟩
  case round =>
    obtain ⟨g, cn, hs, l, rfl, HI⟩ := hrel
    have hg1 := HI.out.f1
    have hg2 := HI.out.f2
    have hcn := HI.out.cnle
    by_cases hlt : g < t
    · have i1 : (g : Int) < (t : Int) := by omega
      have p0 : wr.cell? ⟨gp, 0, none⟩ = some (.slice A n c) := HI.out.blk.cell 0
      have p1 : wr.cell? ⟨gp, 1, none⟩ = some (.int .i64 (cn : Int)) := HI.out.blk.cell 1
      have z1 : wr.frozen? ⟨gp, 1, none⟩ = false := HI.out.blk.frozen 1
      by_cases hlg : 2000 < cn + 1 ∨ 8 ≤ depth
      · have HR : Hid (parF b f t depth cnt = .err g 2) := hide (by rw [HI.out.par, parF_large hlt hlg]; rfl)
        by_cases hl1 : 2000 < cn + 1
        · have j1 : (2000 : Int) < (cn : Int) + 1 := by omega
          clear hlg hl1
          go_wp2_with fail
          refine gen_bod fun w9 h9 => ?_
          have T9 : Tw w w9 gp none := by rw [h9]; exact HI.out.tw.trans (Tw.set_ _ _ _ _ _)
          have B9 : Blk w9 gp 119 #[.slice A n c, .int .i64 ((cn + 1 : Nat) : Int)] := by rw [h9]; exact HI.out.blk.set_ 1 _
          clear h9
          refine bodyPost_ret (v := .tuple #[.slice none 0 0, .int .i64 (g : Int), .int .i64 2]) (by simp [results, Try.results52, go_sem]) rfl (NodGives.large HR.out T9 B9)
        · have j1 : ¬ (2000 : Int) < (cn : Int) + 1 := by omega
          have j2 : (8 : Int) ≤ (depth : Int) := by omega
          clear hlg hl1
          go_wp2_with fail
          refine gen_bod fun w9 h9 => ?_
          have T9 : Tw w w9 gp none := by rw [h9]; exact HI.out.tw.trans (Tw.set_ _ _ _ _ _)
          have B9 : Blk w9 gp 119 #[.slice A n c, .int .i64 ((cn + 1 : Nat) : Int)] := by rw [h9]; exact HI.out.blk.set_ 1 _
          clear h9
          refine bodyPost_ret (v := .tuple #[.slice none 0 0, .int .i64 (g : Int), .int .i64 2]) (by simp [results, Try.results52, go_sem]) rfl (NodGives.large HR.out T9 B9)
      have j1 : ¬ (2000 : Int) < (cn : Int) + 1 := by omega
      have j2 : ¬ (8 : Int) ≤ (depth : Int) := by omega
      have HLG := hide hlg
      clear hlg
      go_upto_region 7 with (fail)
      refine gen_wpC fun w1 hw1 => ?_
      have hgn : wr.heap.size = (wr.setCell ⟨gp, 1, none⟩ (.int .i64 ((cn : Int) + 1))).heap.size := by simp
      have P1 : Hid (Blk w1 gp 119 #[.slice A n c, .int .i64 ((cn + 1 : Nat) : Int)]) := hide (by rw [hw1]; exact (HI.out.blk.set_ 1 _).alloc _)
      have N1 : Hid (Blk w1 wr.heap.size 122 #[.string ⟨#[]⟩, .int .i64 0, .slice none 0 0, .slice none 0 0, .int .i64 (g : Int), .int .i64 0, .int .i64 0, .slice none 0 0]) := hide (by rw [hw1, hgn]; exact Blk.new _ _ _)
      have U1 : Hid (Tw wr w1 gp none) := hide (by rw [hw1]; exact (Tw.set_ _ _ _ _ _).trans (Tw.of_ext (Ext.alloc _ _) _ _))
      have hsz0 := HI.out.tw.size
      have hgg : gp ≠ wr.heap.size := by omega
      have HAN : Hid (∀ a, A = some a → a.block ≠ wr.heap.size) := hide (fun a ha => by have := HA.out (by omega) a ha; omega)
      have HBX := hide (fun (W : World) (hU : Tw wr W gp none) => HB.out.tw (HI.out.tw.trans hU) (fun a ha => ⟨HAG.out (by omega) a ha, by simp⟩))
      have HHD := hide (head_any P1.out N1.out (HBX.out _ U1.out) hgg HAN.out hlt h2 h3)
      clear hw1 hgn p0 p1 z1
      go_wp2_with fail
      refine HHD.out.mono ?_
      intro e w2 hg
      have U2 := hide (U1.out.new hg.1 (Nat.le_refl _))
      have P2 := hide (hg.1.blk P1.out hgg (by simp))
      clear HHD N1
      cases hh : headP b g t with
      | none =>
        have HR : Hid (parF b f t depth cnt = .err g 10) := hide (by rw [HI.out.par, parF_none hlt HLG.out hh]; rfl)
        have he := hg.2.1 hh
        subst he
        clear hg hh
        go_wp2_with fail
        refine bodyPost_ret (v := .tuple #[.slice none 0 0, .int .i64 (g : Int), .int .i64 10]) (by simp [results, Try.results52, go_sem]) rfl (NodGives.large HR.out (HI.out.tw.trans U2.out) P2.out)
      | some r =>
        obtain ⟨k, fo, d, x⟩ := r
        obtain ⟨he, hn2⟩ := hg.2.2 k fo d x hh
        subst he
        have hd1 := (headP_some hh).1
        have hd2 := (headP_some hh).2.1
        have hd3 := (headP_some hh).2.2.1
        have N2 := hide hn2
        have HH := hide hh
        clear hg hh hn2
        have n0 : w2.cell? ⟨wr.heap.size, 0, none⟩ = some (.string ⟨k.toArray⟩) := N2.out.cell 0
        by_cases hk : hasKidsB k = true
        · have hk3 := hasKids_any k w2
          rw [hk] at hk3
          have HK := hide hk3
          clear hk3
          go_wp2_with fail
          with_reducible refine HK.out.mono ?_
          rintro e w' ⟨rfl, rfl⟩
          have hlg := HLG.out
          have hn3 := IH.out (x - d) (by omega) (gp := gp) (f := d) (t := x) (depth := depth + 1) (cnt := cn + 1) (w := w2) (Nat.le_refl _) P2.out (HBX.out _ U2.out) HAG.out hd2 (by omega) h3 (by omega) (by omega)
          rw [show ((depth + 1 : Nat) : Int) = (depth : Int) + 1 by omega] at hn3
          have HNK := hide hn3
          have n5 : w2.cell? ⟨wr.heap.size, 5, none⟩ = some (.int .i64 (d : Int)) := N2.out.cell 5
          have n6 : w2.cell? ⟨wr.heap.size, 6, none⟩ = some (.int .i64 (x : Int)) := N2.out.cell 6
          clear hn3 hlg HK
          go_wp2_with fail
          with_reducible refine HNK.out.mono ?_
          intro e w3 hg2
          obtain ⟨v3, ⟨cn3, hp3, hcn3⟩, herr, hok⟩ := hg2
          have U3 := hide (U2.out.trans v3)
          have N3 := hide (v3.blk N2.out (Ne.symm hgg) (by simp))
          have P3 := hide hp3
          have hsz2 : wr.heap.size < w2.heap.size := N2.out.lt
          have hsz3 := v3.size
          clear n0 n5 n6 hp3 v3 HNK
          cases hq : parF b d x (depth + 1) (cn + 1) with
          | err a fl =>
            have he := herr a fl hq
            have HR : Hid (parF b f t depth cnt = .err a fl) := hide (by rw [HI.out.par, parF_kids hlt HLG.out HH.out hk, hq]; rfl)
            have hfl := parF_err hq
            subst he
            clear herr hok hcn3 hq hk
            go_wp2_with fail
            refine bodyPost_ret (v := .tuple #[.slice none 0 0, .int .i64 (a : Int), .int .i64 fl]) (by simp [results, Try.results52, go_sem]) rfl (NodGives.large HR.out (HI.out.tw.trans U3.out) P3.out)
          | ok kids c1 =>
            obtain ⟨N, c2, he, hnds⟩ := hok kids c1 hq
            obtain rfl : c1 = cn3 := (hcn3 kids c1 hq).symm
            subst he
            have hcb := parF_count hq (by have := HLG.out; omega)
            have HPR : Hid (parF b f t depth cnt = ((parF b x t depth c1).pre [.mk k fo g d x kids]).pre l) := hide (by rw [HI.out.par, parF_kids hlt HLG.out HH.out hk, hq])
            have HBO : Hid (boxOf b (.mk k fo g d x kids) = .mk k fo [] (boxesOf b kids)) := hide (by unfold boxOf; rw [hk]; rfl)
            have HND := hide hnds
            obtain ⟨hc1, hkl⟩ := hcb
            have hkl2 : kids.length ≤ 1000000 := by omega
            generalize hkn : kids.length = kn at *
            have HKN := hide hkn
            clear herr hok hcn3 hq hk HLG HH IH hnds hkn
            have n7 : w3.cell? ⟨wr.heap.size, 7, none⟩ = some (.slice none 0 0) := N3.out.cell 7
            have z7 : w3.frozen? ⟨wr.heap.size, 7, none⟩ = false := N3.out.frozen 7
            go_wp2_with fail
            refine gen_wpC fun w4 h4 => ?_
            have N4 : Hid (Blk w4 wr.heap.size 122 #[.string ⟨k.toArray⟩, .int .i64 fo, .slice none 0 0, .slice none 0 0, .int .i64 (g : Int), .int .i64 (d : Int), .int .i64 (x : Int), .slice N kn c2]) := hide (by rw [h4]; exact N3.out.set_ 7 _)
            have V4 : Hid (Tw w3 w4 wr.heap.size none) := hide (by rw [h4]; exact Tw.set_ _ _ _ _ _)
            clear h4 n7 z7 N3
            have U4 := hide (U3.out.new V4.out (Nat.le_refl _))
            have P4 := hide (V4.out.blk P3.out hgg (by simp))
            have HND4 : Hid (NdsAt w4 b (fun q => w2.heap.size ≤ q ∧ q < w3.heap.size) N kn c2 kids) := hide (HND.out.good (fun q hq => V4.out.block q hq.2 (by omega) (by simp)) (fun _ hq => hq))
            have hsz4 := V4.out.size
            clear HND V4 P3 U3
            obtain ⟨hs3, hat3, hgN, hl3, h31, h32⟩ : ∃ hs3 : List NodeH, At w4 8 eNd N kn c2 hs3 ∧ InG (fun q => w2.heap.size ≤ q ∧ q < w3.heap.size) N ∧ hs3.length = kids.length ∧ (∀ (i : Nat) (y : NodeH) (x : NodeT), hs3[i]? = some y → kids[i]? = some x → NdHd w4 b (fun q => w2.heap.size ≤ q ∧ q < w3.heap.size) y x) ∧ (∀ (i : Nat) (y : NodeH) (x : NodeT), hs3[i]? = some y → kids[i]? = some x → NdsAt w4 b (fun q => w2.heap.size ≤ q ∧ q < w3.heap.size) y.nA y.nn y.nc x.kids) := by
              cases HND4.out with
              | mk hs3 l3 a1 a2 a3 a4 a5 => exact ⟨hs3, a1, a2, a3, a4, a5⟩
            have HAT := hide hat3
            have HGN := hide hgN
            have HL3 := hide hl3
            have H31 := hide h31
            have H32 := hide h32
            clear hat3 hgN hl3 h31 h32
            generalize hgn_ : wr.heap.size = gn at *
            have HGE := hide hgn_
            clear hgn_
            obtain ⟨wo, rfl⟩ : ∃ wo : World, wo = wr := ⟨_, rfl⟩
            go_loopw [69] (fun rj wi => ∃ (j : Nat) (vk : Value), j ≤ kn ∧ rj = .int .i64 (j : Int) ∧ Hid (KdI w4 wi gn k fo g d x N kn c2 hs3 j vk)) (fun rj _ => kn - (intOf rj).toNat)
            case atStart => exact ⟨0, .slice none 0 0, by omega, rfl, hide ⟨N4.out, Own.nil _ _ _ _ _, Tw.refl _ _ _⟩⟩
            case round =>
              obtain ⟨j, vk, hj, rfl, HJ⟩ := hrel
              by_cases hjl : j < kn
              · obtain ⟨bN, oN, rfl, _⟩ := HAT.out.addr (by omega)
                have hatj := HAT.out.tw HJ.out.tw (fun a ha => ⟨by have := (HGN.out a ha).1; omega, by simp⟩)
                have hjh : j < hs3.length := by have := HAT.out.len; omega
                obtain ⟨y, hy⟩ : ∃ y : NodeH, hs3.getD j default = y := ⟨_, rfl⟩
                have htk : (hs3.take (j + 1)).map NodeH.box = (hs3.take j).map NodeH.box ++ [y.box] := by
                  rw [List.take_succ_eq_append_getElem hjh, List.map_append, ← hy]; simp [List.getD, hjh]
                have hlt3 : ((hs3.take j).map NodeH.box).length = j := by simp; omega
                obtain ⟨⟨yk, yf, yd, yn, yc, ya, yan, yac⟩, yb, ydt, ye, na, nn, nc⟩ := y
                have e0 : wr.cell? ⟨bN, oN + j * 8, none⟩ = some (.string ⟨yk.toArray⟩) := hatj.cellK hjl default 0 _ (by rw [hy]; rfl)
                have e1 : wr.cell? ⟨bN, oN + j * 8 + 1, none⟩ = some (.int .i64 yf) := hatj.cellK hjl default 1 _ (by rw [hy]; rfl)
                have e2 : wr.cell? ⟨bN, oN + j * 8 + 2, none⟩ = some (.slice yd yn yc) := hatj.cellK hjl default 2 _ (by rw [hy]; rfl)
                have e3 : wr.cell? ⟨bN, oN + j * 8 + 3, none⟩ = some (.slice ya yan yac) := hatj.cellK hjl default 3 _ (by rw [hy]; rfl)
                have e4 : wr.cell? ⟨bN, oN + j * 8 + 4, none⟩ = some (.int .i64 (yb : Int)) := hatj.cellK hjl default 4 _ (by rw [hy]; rfl)
                have e5 : wr.cell? ⟨bN, oN + j * 8 + 5, none⟩ = some (.int .i64 (ydt : Int)) := hatj.cellK hjl default 5 _ (by rw [hy]; rfl)
                have e6 : wr.cell? ⟨bN, oN + j * 8 + 6, none⟩ = some (.int .i64 (ye : Int)) := hatj.cellK hjl default 6 _ (by rw [hy]; rfl)
                have e7 : wr.cell? ⟨bN, oN + j * 8 + 7, none⟩ = some (.slice na nn nc) := hatj.cellK hjl default 7 _ (by rw [hy]; rfl)
                obtain ⟨kA, kc, hvk, _⟩ := HJ.out.own.at_ len_eBx
                rw [hlt3] at hvk
                subst hvk
                have HTK := hide htk
                have HL3J := hide hlt3
                have i2 : (j : Int) < (kn : Int) := by omega
                clear hy htk hlt3 hatj
                go_wp2_with fail
                refine gen_wpC fun w6 h6 => ?_
                have KB : Hid (Blk w6 wr.heap.size 122 #[.string ⟨yk.toArray⟩, .int .i64 yf, .slice yd yn yc, .slice ya yan yac, .int .i64 (yb : Int), .int .i64 (ydt : Int), .int .i64 (ye : Int), .slice na nn nc]) := hide (by rw [h6]; exact Blk.new _ _ _)
                have N6 : Hid (Blk w6 gn 122 #[.string ⟨k.toArray⟩, .int .i64 fo, .slice none 0 0, .slice kA j kc, .int .i64 (g : Int), .int .i64 (d : Int), .int .i64 (x : Int), .slice (some ⟨bN, oN, none⟩) kn c2]) := hide (by rw [h6]; exact HJ.out.blk.alloc _)
                have O6 : Hid (Own w6 w4.heap.size 66 4 eBx (.slice kA j kc) ((hs3.take j).map NodeH.box)) := hide (by rw [h6]; exact HJ.out.own.ext (Ext.alloc _ _))
                have V6 : Hid (Tw w4 w6 gn none) := hide (by rw [h6]; exact HJ.out.tw.trans (Tw.of_ext (Ext.alloc _ _) _ _))
                have hkb : wr.heap.size < w6.heap.size := KB.out.lt
                have hkg : gn ≠ wr.heap.size := by have := HJ.out.blk.lt; omega
                have hks : w4.heap.size ≤ wr.heap.size := HJ.out.tw.size
                have hgn4 : gn < w4.heap.size := N4.out.lt
                clear h6 e0 e1 e2 e3 e4 e5 e6 e7
                generalize wr.heap.size = kb at *
                obtain ⟨i2_, hi2, hu0, hu1, hu2⟩ := info_parts Try.info66
                have M1 : Hid (((hs3.take j).map NodeH.box).length + 1 ≤ maxLen) := hide (by rw [HL3J.out]; unfold maxLen; omega)
                have M2 : Hid ((((hs3.take j).map NodeH.box).length + 1) * 72 ≤ 140737488355328) := hide (by rw [HL3J.out]; omega)
                have M3 : Hid (w4.heap.size ≤ w6.heap.size) := hide (by omega)
                have hS0 : (fun w' => w'.cell? ⟨gn, 3, none⟩ = some (.slice kA j kc) ∧ w'.cell? ⟨kb, 0, none⟩ = some (.string ⟨yk.toArray⟩) ∧ w'.cell? ⟨kb, 1, none⟩ = some (.int .i64 yf) ∧ w'.cell? ⟨kb, 2, none⟩ = some (.slice yd yn yc) ∧ w'.cell? ⟨kb, 3, none⟩ = some (.slice ya yan yac)) w6 := ⟨N6.out.cell 3, KB.out.cell 0, KB.out.cell 1, KB.out.cell 2, KB.out.cell 3⟩
                have HS6 := hide hS0
                refine region_z (S := fun w' => w'.cell? ⟨gn, 3, none⟩ = some (.slice kA j kc) ∧ w'.cell? ⟨kb, 0, none⟩ = some (.string ⟨yk.toArray⟩) ∧ w'.cell? ⟨kb, 1, none⟩ = some (.int .i64 yf) ∧ w'.cell? ⟨kb, 2, none⟩ = some (.slice yd yn yc) ∧ w'.cell? ⟨kb, 3, none⟩ = some (.slice ya yan yac)) 7 (by kernel_rfl) ?_
                have hS0 : (fun w' => w'.cell? ⟨gn, 3, none⟩ = some (.slice kA j kc) ∧ w'.cell? ⟨kb, 0, none⟩ = some (.string ⟨yk.toArray⟩) ∧ w'.cell? ⟨kb, 1, none⟩ = some (.int .i64 yf) ∧ w'.cell? ⟨kb, 2, none⟩ = some (.slice yd yn yc) ∧ w'.cell? ⟨kb, 3, none⟩ = some (.slice ya yan yac)) w6.drew := hS0
                change AnyZ _ _ _ _ _ _ _ _ _ w6.drew
                refine AnyZ.takeE (i := 0) (d := 73) (oi := _) (v := ?_) rfl rfl rfl (by kernel_rfl) (by kernel_rfl) (by kernel_rfl) (by kernel_rfl) (by kernel_rfl) (by kernel_rfl) (fun _ _ _ h => h) (Or.inl ⟨by rfl, ?_⟩) hS0 ?_
                rotate_left
                · intro W hW; obtain ⟨s1, s2, s3, s4, s5⟩ := hW; first | (go_simp; done) | (go_simp; with_reducible rfl)
                try simp only [Act.put, setIfInBounds_toArray, set_cons_zero, set_cons_succ]
                refine AnyZ.takeE (i := 1) (d := 74) (oi := _) (v := ?_) rfl rfl rfl (by kernel_rfl) (by kernel_rfl) (by kernel_rfl) (by kernel_rfl) (by kernel_rfl) (by kernel_rfl) (fun _ _ _ h => h) (Or.inl ⟨by rfl, ?_⟩) hS0 ?_
                rotate_left
                · intro W hW; obtain ⟨s1, s2, s3, s4, s5⟩ := hW; first | (go_simp; done) | (go_simp; with_reducible rfl)
                try simp only [Act.put, setIfInBounds_toArray, set_cons_zero, set_cons_succ]
                refine AnyZ.takeE (i := 2) (d := 75) (oi := _) (v := ?_) rfl rfl rfl (by kernel_rfl) (by kernel_rfl) (by kernel_rfl) (by kernel_rfl) (by kernel_rfl) (by kernel_rfl) (fun _ _ _ h => h) (Or.inl ⟨by rfl, ?_⟩) hS0 ?_
                rotate_left
                · intro W hW; obtain ⟨s1, s2, s3, s4, s5⟩ := hW; first | (go_simp; done) | (go_simp; with_reducible rfl)
                try simp only [Act.put, setIfInBounds_toArray, set_cons_zero, set_cons_succ]
                refine AnyZ.takeE (i := 3) (d := 76) (oi := _) (v := ?_) rfl rfl rfl (by kernel_rfl) (by kernel_rfl) (by kernel_rfl) (by kernel_rfl) (by kernel_rfl) (by kernel_rfl) (fun _ _ _ h => h) (Or.inl ⟨by rfl, ?_⟩) hS0 ?_
                rotate_left
                · intro W hW; obtain ⟨s1, s2, s3, s4, s5⟩ := hW; first | (go_simp; done) | (go_simp; with_reducible rfl)
                try simp only [Act.put, setIfInBounds_toArray, set_cons_zero, set_cons_succ]
                refine AnyZ.takeE (i := 4) (d := 77) (oi := _) (v := ?_) rfl rfl rfl (by kernel_rfl) (by kernel_rfl) (by kernel_rfl) (by kernel_rfl) (by kernel_rfl) (by kernel_rfl) (fun _ _ _ h => h) (Or.inl ⟨by rfl, ?_⟩) hS0 ?_
                rotate_left
                · intro W hW; obtain ⟨s1, s2, s3, s4, s5⟩ := hW; first | (go_simp; done) | (go_simp; with_reducible rfl)
                try simp only [Act.put, setIfInBounds_toArray, set_cons_zero, set_cons_succ]
                refine AnyZ.takeE (i := 5) (d := 78) (oi := _) (v := ?_) rfl rfl rfl (by kernel_rfl) (by kernel_rfl) (by kernel_rfl) (by kernel_rfl) (by kernel_rfl) (by kernel_rfl) (fun _ _ _ h => h) (Or.inl ⟨by rfl, ?_⟩) hS0 ?_
                rotate_left
                · intro W hW; obtain ⟨s1, s2, s3, s4, s5⟩ := hW; first | (go_simp; done) | (go_simp; with_reducible rfl)
                try simp only [Act.put, setIfInBounds_toArray, set_cons_zero, set_cons_succ]
                refine AnyZ.step (i := 6) rfl (by kernel_rfl) (fun K hK => ?_)
                go_simp
                have E7a : Ext w6 (w6.alloc (.cells #[.string ⟨#[]⟩, .int .i64 0, .slice none 0 0, .slice none 0 0] 66)).drew := (by repeat' (first | (with_reducible first | exact Below.refl _ _ | assumption | refine below_drewN ?_ _ | refine Below.drew ?_ | refine ext_alloc ?_ _ | refine Below.setCell ?_ ?_ _) | go_size))
                refine hK.out _ _ (fun _ => ⟨E7a.cell HS6.out.1, E7a.cell HS6.out.2.1, E7a.cell HS6.out.2.2.1, E7a.cell HS6.out.2.2.2.1, E7a.cell HS6.out.2.2.2.2⟩) ?_
                clear hK K
                try simp only [Act.put, setIfInBounds_toArray, set_cons_zero, set_cons_succ]
                refine gen_z fun w7 h7 => ?_
                have E7 : Hid (Ext w6 w7) := hide (by rw [h7]; exact E7a)
                have AT7 : Hid (At w7 4 eBx (some ⟨w6.heap.size, 0, none⟩) 1 1 [(⟨[], 0, none, 0, 0, none, 0, 0⟩ : BoxH)]) := hide (by rw [h7]; exact (At.newE (enc := eBx) w6 (⟨[], 0, none, 0, 0, none, 0, 0⟩ : BoxH) #[.string ⟨#[]⟩, .int .i64 0, .slice none 0 0, .slice none 0 0] 66 rfl).ext (Ext.drew _))
                have O7 := hide (O6.out.ext E7.out)
                have N7 := hide (N6.out.ext E7.out)
                have V7 := hide (V6.out.trans (Tw.of_ext E7.out gn none))
                have M3 : Hid (w4.heap.size ≤ w7.heap.size) := hide (Nat.le_trans M3.out E7.out.size)
                clear h7 E7a hS0
                refine AnyZ.step (i := 7) rfl (by kernel_rfl) (fun K hK => ?_)
                refine step_append_at rfl _ _ 64 rfl w4.heap.size 66 i2_ _ 72 Try.underlying64 hi2 hu0 hu1 hu2 rfl (by omega) len_eBx one_eBx _ _ (by rfl) O7.out (some ⟨w6.heap.size, 0, none⟩) 1 1 [(⟨[], 0, none, 0, 0, none, 0, 0⟩ : BoxH)] (by simp [Act.eval]) AT7.out M1.out M2.out M3.out ?_
                intro v8 w8 o8 g8 _ r8
                obtain ⟨A8, c8, hv8, _⟩ := o8.at_ len_eBx
                have hlen8 : ((hs3.take j).map NodeH.box ++ [(⟨[], 0, none, 0, 0, none, 0, 0⟩ : BoxH)]).length = j + 1 := by rw [List.length_append, HL3J.out]; rfl
                rw [hlen8] at hv8
                subst hv8
                obtain ⟨gb, hgb, hgb1, hgb2⟩ := o8.where_ (by omega) hlen8
                subst hgb
                have hgbn : gn ≠ gb := by omega
                have hno : some gn ≠ (Value.slice kA j kc).ownBlock := fun e => by have := (HJ.out.own.lt gn e.symm).1; omega
                have hrow : ∀ q, (Value.slice kA j kc).ownBlock = some q → w4.heap.size ≤ q ∨ q = gn := fun q hq => .inl (HJ.out.own.lt q hq).1
                have O8 := hide o8
                have N8 := hide (N7.out.grown g8 hno)
                have V8 := hide (V7.out.row g8 hrow)
                refine hK.out _ _ (fun h => absurd h (by decide +kernel)) ?_
                clear hK K o8 g8 r8 hno hrow hlen8
                try simp only [Act.put, setIfInBounds_toArray, set_cons_zero, set_cons_succ]
                have b0 : (0 : Int) ≤ (j : Int) := by omega
                have b1 : (j : Int) < (j : Int) + 1 := by omega
                have b2 : (j : Int) < ((j + 1 : Nat) : Int) := by omega
                refine AnyZ.takeZE (i := 8) (d := 81) (oi := _) (v := ?_) rfl rfl (by kernel_rfl) (by kernel_rfl) (by kernel_rfl) (by kernel_rfl) (by kernel_rfl) (fun _ _ _ h => h) (Or.inl ⟨by rfl, ?_⟩) ?_
                rotate_left
                · intro W _; first | (go_simp; done) | (go_simp; with_reducible rfl)
                try simp only [Act.put, setIfInBounds_toArray, set_cons_zero, set_cons_succ]
                refine AnyZ.takeZE (i := 10) (d := 82) (oi := _) (v := ?_) rfl rfl (by kernel_rfl) (by kernel_rfl) (by kernel_rfl) (by kernel_rfl) (by kernel_rfl) (fun _ _ _ h => h) (Or.inl ⟨by rfl, ?_⟩) ?_
                rotate_left
                · intro W _; first | (go_simp; done) | (go_simp; with_reducible rfl)
                try simp only [Act.put, setIfInBounds_toArray, set_cons_zero, set_cons_succ]
                refine AnyZ.takeZE (i := 11) (d := 83) (oi := _) (v := ?_) rfl rfl (by kernel_rfl) (by kernel_rfl) (by kernel_rfl) (by kernel_rfl) (by kernel_rfl) (fun _ _ _ h => h) (Or.inl ⟨by rfl, ?_⟩) ?_
                rotate_left
                · intro W _; first | (go_simp; done) | (go_simp; with_reducible rfl)
                try simp only [Act.put, setIfInBounds_toArray, set_cons_zero, set_cons_succ]
                have l0 : w8.cell? ⟨gb, j * 4, none⟩ = some (.string ⟨#[]⟩) := (O8.out.lastCells len_eBx (i := 0) rfl).1
                have y0 : w8.frozen? ⟨gb, j * 4, none⟩ = false := (O8.out.lastCells len_eBx (i := 0) (u := .string ⟨#[]⟩) rfl).2
                have l1 : w8.cell? ⟨gb, j * 4 + 1, none⟩ = some (.int .i64 0) := (O8.out.lastCells len_eBx (i := 1) rfl).1
                have y1 : w8.frozen? ⟨gb, j * 4 + 1, none⟩ = false := (O8.out.lastCells len_eBx (i := 1) (u := .int .i64 0) rfl).2
                have l2 : w8.cell? ⟨gb, j * 4 + 2, none⟩ = some (.slice none 0 0) := (O8.out.lastCells len_eBx (i := 2) rfl).1
                have y2 : w8.frozen? ⟨gb, j * 4 + 2, none⟩ = false := (O8.out.lastCells len_eBx (i := 2) (u := .slice none 0 0) rfl).2
                have l3 : w8.cell? ⟨gb, j * 4 + 3, none⟩ = some (.slice none 0 0) := (O8.out.lastCells len_eBx (i := 3) rfl).1
                have y3 : w8.frozen? ⟨gb, j * 4 + 3, none⟩ = false := (O8.out.lastCells len_eBx (i := 3) (u := .slice none 0 0) rfl).2
                have n3 : w8.cell? ⟨gn, 3, none⟩ = some (.slice kA j kc) := N8.out.cell 3
                have nz3 : w8.frozen? ⟨gn, 3, none⟩ = false := N8.out.frozen 3
                have hob : (Value.slice (some ⟨gb, 0, none⟩) (j + 1) c8).ownBlock ≠ some gn := fun e => hgbn (by injection (show some gb = some gn from e) with e; exact e.symm)
                have HOB := hide hob
                clear hob
                refine AnyZ.many (i := 9) (r := [12]) (by kernel_rfl) (AllZ.cons rfl (fun K hK => ?_) (AllZ.cons rfl (fun K hK => ?_) trivial))
                · go_simp
                  refine hK.out _ _ (fun h => absurd h (by decide +kernel)) ?_
                  clear hK K
                  try simp only [Act.put, setIfInBounds_toArray, set_cons_zero, set_cons_succ]
                  refine gen_z fun w9 h9 => ?_
                  have O9 : Hid (Own w9 w4.heap.size 66 4 eBx (.slice (some ⟨gb, 0, none⟩) (j + 1) c8) ((hs3.take j).map NodeH.box ++ [(⟨yk, yf, yd, yn, yc, ya, yan, yac⟩ : BoxH)])) := hide (by rw [h9]; exact O8.out.setLast4 len_eBx rfl)
                  have N9 : Hid (Blk w9 gn 122 #[.string ⟨k.toArray⟩, .int .i64 fo, .slice none 0 0, .slice kA j kc, .int .i64 (g : Int), .int .i64 (d : Int), .int .i64 (x : Int), .slice (some ⟨bN, oN, none⟩) kn c2]) := hide (by rw [h9]; exact (((N8.out.far hgbn _).far hgbn _).far hgbn _).far hgbn _)
                  have V9 : Hid (Tw w4 w9 gn none) := hide (V8.out.row (row := some gb) (by rw [h9]; exact (((grown_set _ _ _ _).trans (grown_set _ _ _ _)).trans (grown_set _ _ _ _)).trans (grown_set _ _ _ _)) (fun q hq => by injection hq with hq; omega))
                  clear h9 l0 y0 l1 y1 l2 y2 l3 y3 n3 nz3
                  have n3 : w9.cell? ⟨gn, 3, none⟩ = some (.slice kA j kc) := N9.out.cell 3
                  have nz3 : w9.frozen? ⟨gn, 3, none⟩ = false := N9.out.frozen 3
                  refine AnyZ.step (i := 12) rfl (by kernel_rfl) (fun K hK => ?_)
                  go_simp
                  refine hK.out _ _ (fun h => absurd h (by decide +kernel)) ?_
                  clear hK K
                  try simp only [Act.put, setIfInBounds_toArray, set_cons_zero, set_cons_succ]
                  refine AnyZ.done (by kernel_rfl) ?_ _
                  refine gen_blo fun w10 h10 => ?_
                  have N10 : Hid (Blk w10 gn 122 #[.string ⟨k.toArray⟩, .int .i64 fo, .slice none 0 0, .slice (some ⟨gb, 0, none⟩) (j + 1) c8, .int .i64 (g : Int), .int .i64 (d : Int), .int .i64 (x : Int), .slice (some ⟨bN, oN, none⟩) kn c2]) := hide (by rw [h10]; exact N9.out.set_ 3 _)
                  have O10 : Hid (Own w10 w4.heap.size 66 4 eBx (.slice (some ⟨gb, 0, none⟩) (j + 1) c8) ((hs3.take j).map NodeH.box ++ [(⟨yk, yf, yd, yn, yc, ya, yan, yac⟩ : BoxH)])) := hide (by rw [h10]; exact O9.out.tw (Tw.set_ _ gn 3 _ none) HOB.out (fun q hq e => by cases e))
                  have V10 : Hid (Tw w4 w10 gn none) := hide (by rw [h10]; exact V9.out.trans (Tw.set_ _ _ _ _ _))
                  clear h10
                  go_wp2_with fail
                  exact ⟨⟨j + 1, _, by omega, by go_num, hide ⟨N10.out, by rw [HTK.out]; exact O10.out, V10.out⟩⟩, by simp [intOf]; omega⟩
                · go_simp
                  refine hK.out _ _ (fun h => absurd h (by decide +kernel)) ?_
                  clear hK K
                  try simp only [Act.put, setIfInBounds_toArray, set_cons_zero, set_cons_succ]
                  refine gen_z fun w9 h9 => ?_
                  have N9 : Hid (Blk w9 gn 122 #[.string ⟨k.toArray⟩, .int .i64 fo, .slice none 0 0, .slice (some ⟨gb, 0, none⟩) (j + 1) c8, .int .i64 (g : Int), .int .i64 (d : Int), .int .i64 (x : Int), .slice (some ⟨bN, oN, none⟩) kn c2]) := hide (by rw [h9]; exact N8.out.set_ 3 _)
                  have O9 : Hid (Own w9 w4.heap.size 66 4 eBx (.slice (some ⟨gb, 0, none⟩) (j + 1) c8) ((hs3.take j).map NodeH.box ++ [(⟨[], 0, none, 0, 0, none, 0, 0⟩ : BoxH)])) := hide (by rw [h9]; exact O8.out.tw (Tw.set_ _ gn 3 _ none) HOB.out (fun q hq e => by cases e))
                  have V9 : Hid (Tw w4 w9 gn none) := hide (by rw [h9]; exact V8.out.trans (Tw.set_ _ _ _ _ _))
                  clear h9 l0 y0 l1 y1 l2 y2 l3 y3 n3 nz3
                  have l0 : w9.cell? ⟨gb, j * 4, none⟩ = some (.string ⟨#[]⟩) := (O9.out.lastCells len_eBx (i := 0) rfl).1
                  have y0 : w9.frozen? ⟨gb, j * 4, none⟩ = false := (O9.out.lastCells len_eBx (i := 0) (u := .string ⟨#[]⟩) rfl).2
                  have l1 : w9.cell? ⟨gb, j * 4 + 1, none⟩ = some (.int .i64 0) := (O9.out.lastCells len_eBx (i := 1) rfl).1
                  have y1 : w9.frozen? ⟨gb, j * 4 + 1, none⟩ = false := (O9.out.lastCells len_eBx (i := 1) (u := .int .i64 0) rfl).2
                  have l2 : w9.cell? ⟨gb, j * 4 + 2, none⟩ = some (.slice none 0 0) := (O9.out.lastCells len_eBx (i := 2) rfl).1
                  have y2 : w9.frozen? ⟨gb, j * 4 + 2, none⟩ = false := (O9.out.lastCells len_eBx (i := 2) (u := .slice none 0 0) rfl).2
                  have l3 : w9.cell? ⟨gb, j * 4 + 3, none⟩ = some (.slice none 0 0) := (O9.out.lastCells len_eBx (i := 3) rfl).1
                  have y3 : w9.frozen? ⟨gb, j * 4 + 3, none⟩ = false := (O9.out.lastCells len_eBx (i := 3) (u := .slice none 0 0) rfl).2
                  refine AnyZ.step (i := 9) rfl (by kernel_rfl) (fun K hK => ?_)
                  go_simp
                  refine hK.out _ _ (fun h => absurd h (by decide +kernel)) ?_
                  clear hK K
                  try simp only [Act.put, setIfInBounds_toArray, set_cons_zero, set_cons_succ]
                  refine AnyZ.done (by kernel_rfl) ?_ _
                  refine gen_blo fun w10 h10 => ?_
                  have O10 : Hid (Own w10 w4.heap.size 66 4 eBx (.slice (some ⟨gb, 0, none⟩) (j + 1) c8) ((hs3.take j).map NodeH.box ++ [(⟨yk, yf, yd, yn, yc, ya, yan, yac⟩ : BoxH)])) := hide (by rw [h10]; exact O9.out.setLast4 len_eBx rfl)
                  have N10 : Hid (Blk w10 gn 122 #[.string ⟨k.toArray⟩, .int .i64 fo, .slice none 0 0, .slice (some ⟨gb, 0, none⟩) (j + 1) c8, .int .i64 (g : Int), .int .i64 (d : Int), .int .i64 (x : Int), .slice (some ⟨bN, oN, none⟩) kn c2]) := hide (by rw [h10]; exact (((N9.out.far hgbn _).far hgbn _).far hgbn _).far hgbn _)
                  have V10 : Hid (Tw w4 w10 gn none) := hide (V9.out.row (row := some gb) (by rw [h10]; exact (((grown_set _ _ _ _).trans (grown_set _ _ _ _)).trans (grown_set _ _ _ _)).trans (grown_set _ _ _ _)) (fun q hq => by injection hq with hq; omega))
                  clear h10
                  go_wp2_with fail
                  exact ⟨⟨j + 1, _, by omega, by go_num, hide ⟨N10.out, by rw [HTK.out]; exact O10.out, V10.out⟩⟩, by simp [intOf]; omega⟩
              · obtain rfl : kn = j := by omega
                have hl3 : hs3.length = kn := by have := HL3.out; have := HKN.out; omega
                obtain ⟨kA, kc, hvk, hatk⟩ := HJ.out.own.at_ len_eBx
                have htl : (hs3.take kn).map NodeH.box = hs3.map NodeH.box := by rw [← hl3, List.take_length]
                rw [htl] at hatk hvk
                rw [show (hs3.map NodeH.box).length = kn by rw [List.length_map, hl3]] at hatk hvk
                subst hvk
                obtain ⟨w5, rfl⟩ : ∃ w5 : World, w5 = wr := ⟨_, rfl⟩
                have hkb4 : w3.heap.size ≤ w4.heap.size := hsz4
                have hkb5 : w4.heap.size ≤ w5.heap.size := HJ.out.tw.size
                have N5 := hide HJ.out.blk
                have U5 : Hid (Tw wo w5 gp none) := hide (U4.out.new HJ.out.tw (by have := HGE.out; omega))
                have P5 := hide (HJ.out.tw.blk P4.out hgg (by simp))
                have hsame : ∀ q, (w2.heap.size ≤ q ∧ q < w3.heap.size) → w5.heap[q]? = w4.heap[q]? := fun q hq => HJ.out.tw.block q (by omega) (by omega) (by simp)
                have hkA : InG (fun q => w2.heap.size ≤ q ∧ q < w5.heap.size) kA := fun a ha => by subst ha; have := HJ.out.own.lt a.block rfl; exact ⟨by omega, this.2⟩
                have OK5 : Hid (NdOk w5 b (fun q => w2.heap.size ≤ q ∧ q < w5.heap.size) ⟨⟨k, fo, none, 0, 0, kA, kn, kc⟩, g, d, x, N, kn, c2⟩ (.mk k fo g d x kids)) := hide (by
                  refine ⟨⟨?_, rfl, rfl, rfl⟩, HND4.out.good hsame (fun q hq => ⟨hq.1, by omega⟩)⟩
                  rw [HBO.out]
                  refine ⟨⟨rfl, rfl, At.nil _ _ _, (fun a ha => by cases ha)⟩, ?_⟩
                  have hel : ∀ (i : Nat) (y : BoxH) (x : BoxT), (hs3.map NodeH.box)[i]? = some y → (boxesOf b kids)[i]? = some x → BxOk w5 (fun q => w2.heap.size ≤ q ∧ q < w5.heap.size) y x := by
                    intro i y x hy hx
                    rw [boxesOf_map] at hx
                    rw [List.getElem?_map] at hy hx
                    cases h5 : hs3[i]? with
                    | none => rw [h5] at hy; cases hy
                    | some z =>
                      cases h6 : kids[i]? with
                      | none => rw [h6] at hx; cases hx
                      | some x0 =>
                        rw [h5] at hy
                        rw [h6] at hx
                        cases hy
                        cases hx
                        exact (H31.out i z x0 h5 h6).1.good hsame (fun q hq => ⟨hq.1, by omega⟩)
                  exact .mk (hs3.map NodeH.box) (boxesOf b kids) hatk hkA (by rw [boxesOf_map, List.length_map, List.length_map, HL3.out]) (fun i y x hy hx => (hel i y x hy hx).1) (fun i y x hy hx => (hel i y x hy hx).2))
                clear hatk htl hsame hkA
                have i2 : ¬ (kn : Int) < (kn : Int) := by omega
                have R5 := hide (HI.out.row.tw U5.out hg0)
                have T5 := hide (HI.out.tw.trans U5.out)
                obtain ⟨i1_, hi1, hy0, hy1, hy2⟩ := info_parts Try.info122
                have hll : hs.length ≤ 1000000 := by have := HI.out.row.len; have := HI.out.few; omega
                have L1 : Hid (hs.length + 1 ≤ maxLen) := hide (by unfold maxLen; omega)
                have L2 : Hid ((hs.length + 1) * 120 ≤ 140737488355328) := hide (by omega)
                have hsz6 : w.heap.size ≤ w5.heap.size := T5.out.size
                have L3 : Hid (w.heap.size ≤ (w5.alloc (.cells #[.string ⟨k.toArray⟩, .int .i64 fo, .slice none 0 0, .slice kA kn kc, .int .i64 (g : Int), .int .i64 (d : Int), .int .i64 (x : Int), .slice N kn c2] 122)).heap.size) := hide (by rw [World.size_alloc]; omega)
                have HOW : ∀ q, u11.ownBlock = some q → w.heap.size ≤ q ∧ q < gn := by have := HI.out.row.own.lt; rw [HGE.out] at this; exact this
                have HNE : Hid (some gn ≠ u11.ownBlock) := hide (fun e => by have := (HOW _ e.symm).2; omega)
                have HNP : Hid (some gp ≠ u11.ownBlock) := hide (fun e => by have := (HOW _ e.symm).1; omega)
                have HRW : Hid (∀ q, u11.ownBlock = some q → w.heap.size ≤ q ∨ q = gp) := hide (fun q hq => .inl (HOW q hq).1)
                have HRL : Hid (∀ q, u11.ownBlock = some q → q < gn) := hide (fun q hq => (HOW q hq).2)
                clear HOW
                have HEL : Hid (At (w5.alloc (.cells #[.string ⟨k.toArray⟩, .int .i64 fo, .slice none 0 0, .slice kA kn kc, .int .i64 (g : Int), .int .i64 (d : Int), .int .i64 (x : Int), .slice N kn c2] 122)) 8 eNd (some ⟨w5.heap.size, 0, none⟩) 1 1 [(⟨⟨k, fo, none, 0, 0, kA, kn, kc⟩, g, d, x, N, kn, c2⟩ : NodeH)]) := hide (At.newE (enc := eNd) w5 ⟨⟨k, fo, none, 0, 0, kA, kn, kc⟩, g, d, x, N, kn, c2⟩ _ _ rfl)
                have m0 : w5.cell? ⟨gn, 0, none⟩ = some (.string ⟨k.toArray⟩) := N5.out.cell 0
                have m1 : w5.cell? ⟨gn, 1, none⟩ = some (.int .i64 fo) := N5.out.cell 1
                have m2 : w5.cell? ⟨gn, 2, none⟩ = some (.slice none 0 0) := N5.out.cell 2
                have m3 : w5.cell? ⟨gn, 3, none⟩ = some (.slice kA kn kc) := N5.out.cell 3
                have m4 : w5.cell? ⟨gn, 4, none⟩ = some (.int .i64 (g : Int)) := N5.out.cell 4
                have m5 : w5.cell? ⟨gn, 5, none⟩ = some (.int .i64 (d : Int)) := N5.out.cell 5
                have m6 : w5.cell? ⟨gn, 6, none⟩ = some (.int .i64 (x : Int)) := N5.out.cell 6
                have m7 : w5.cell? ⟨gn, 7, none⟩ = some (.slice N kn c2) := N5.out.cell 7
                go_wp2_with (at_builtin; refine wpList_append_at _ rfl (.tmp 97) (.tmp 99) 69 rfl w.heap.size 122 i1_ _ 120 Try.underlying69 hi1 hy0 hy1 hy2 rfl (by omega) len_eNd one_eNd u11 hs (by rfl) (R5.out.own.ext (Ext.alloc _ _)) (some ⟨w5.heap.size, 0, none⟩) 1 1 [⟨⟨k, fo, none, 0, 0, kA, kn, kc⟩, g, d, x, N, kn, c2⟩] (by rfl) HEL.out L1.out L2.out L3.out ?_; intro v6 w6 o6 g6 _ r6; have O6 := hide o6; have G6 := hide g6; have R6 := hide r6; have n6 : w6.cell? ⟨gn, 6, none⟩ = some (.int .i64 (x : Int)) := ((N5.out.alloc _).grown g6 HNE.out).cell 6; clear o6 g6 r6)
                have hx1 : (t : Int) - (x : Int) < (t : Int) - (g : Int) := by omega
                exact ⟨⟨x, c1, hs ++ [⟨⟨k, fo, none, 0, 0, kA, kn, kc⟩, g, d, x, N, kn, c2⟩], l ++ [(.mk k fo g d x kids)], rfl, hide ⟨by omega, by omega, by omega, by rw [HPR.out, pre_pre], by have := HI.out.few; simp; omega, (P5.out.alloc _).grown G6.out HNP.out, R5.out.snoc OK5.out (fun q hq => ⟨by omega, by omega, fun e => by have := HRL.out q e; omega⟩) (Ext.alloc _ _) O6.out G6.out R6.out, (T5.out.trans (Tw.of_ext (Ext.alloc _ _) gp none)).row G6.out HRW.out⟩⟩, by simp [intOf]; omega⟩
        · have hk' : hasKidsB k = false := by simpa using hk
          have hk3 := hasKids_any k w2
          rw [hk'] at hk3
          have HK := hide hk3
          clear hk3
          have HPR : Hid (parF b f t depth cnt = ((parF b x t depth (cn + 1)).pre [.mk k fo g d x []]).pre l) := hide (by rw [HI.out.par, parF_leaf hlt HLG.out HH.out hk'])
          have HBO : Hid (boxOf b (.mk k fo g d x []) = .mk k fo (cutB b d x) []) := hide (by unfold boxOf; rw [hk']; rfl)
          clear hk hk' HLG HH IH
          go_wp2_with fail
          with_reducible refine HK.out.mono ?_
          rintro e w' ⟨rfl, rfl⟩
          have q0 : w2.cell? ⟨gp, 0, none⟩ = some (.slice A n c) := P2.out.cell 0
          go_wp2_with fail
          have n5 : w2.cell? ⟨wr.heap.size, 5, none⟩ = some (.int .i64 (d : Int)) := N2.out.cell 5
          have n6 : w2.cell? ⟨wr.heap.size, 6, none⟩ = some (.int .i64 (x : Int)) := N2.out.cell 6
          obtain ⟨A3, hr3, ha3⟩ := HB.out.range_ Try.underlying28 (fun _ => by kernel_rfl) (k := d) (m := x) (by omega) (by omega) (d : Int) (x : Int) rfl rfl
          have e3 : (b.drop d).take (x - d) = cutB b d x := rfl
          rw [e3] at ha3
          have hcl : (cutB b d x).length = x - d := by unfold cutB; have := HB.out.len; rw [List.length_take, List.length_drop]; omega
          rw [← hcl] at hr3 ha3
          have HCL := hide hcl
          have hcl2 : (cutB b d x).length ≤ 1000000 := by omega
          clear e3 hcl
          go_still_tail 9, (by kernel_rfl)
          change wpList _ _ _ _ _ w2.drew
          have U3 : Hid (Tw wr w2.drew gp none) := hide U2.out.drew
          have P3 := hide P2.out.drew
          have N3 := hide N2.out.drew
          have hsz2 : w2.heap.size = w2.drew.heap.size := rfl
          have hszb : wr.heap.size < w2.drew.heap.size := N3.out.lt
          clear q0 n0 n5 n6 hr3 P2 N2 U2
          generalize w2.drew = w3 at *
          have HB3 := hide (ha3 w3 (HBX.out w3 U3.out))
          obtain ⟨i0, hi0, hz0, hz1, hz2⟩ := info_parts Try.info5
          have S1 : Hid (([] : List UInt8).length + (cutB b d x).length ≤ maxLen) := hide (by simp [maxLen]; omega)
          have S2 : Hid ((([] : List UInt8).length + (cutB b d x).length) * 1 ≤ 140737488355328) := hide (by simp; omega)
          clear hsz2
          go_upto_region 20 with (at_builtin; refine wpList_append_at _ rfl (.const (.slice none 0 0)) (.tmp 93) 28 rfl w3.heap.size 5 i0 _ 1 Try.underlying28 hi0 hz0 hz1 hz2 rfl (by omega) len_e8 one_e8 (.slice none 0 0) [] rfl (Own.nil _ _ _ _ _) A3 (cutB b d x).length (c - d) (cutB b d x) rfl HB3.out S1.out S2.out (Nat.le_refl _) ?_; intro v4 w4 o4 g4 _ _; rw [List.nil_append] at o4; obtain ⟨dA, dc, rfl, q4⟩ := o4.at_ len_e8; have O4 := hide o4; have Q4 := hide q4; have G4 := hide (grown_ext g4); have N4 := hide (N3.out.ext (grown_ext g4)); have n2 := N4.out.cell 2; have z2 := N4.out.frozen 2; clear o4 g4 q4)
          refine gen_wpC fun w5 h5 => ?_
          have N5 : Hid (Blk w5 wr.heap.size 122 #[.string ⟨k.toArray⟩, .int .i64 fo, .slice dA (cutB b d x).length dc, .slice none 0 0, .int .i64 (g : Int), .int .i64 (d : Int), .int .i64 (x : Int), .slice none 0 0]) := hide (by rw [h5]; exact N4.out.set_ 2 _)
          have V5 : Hid (Tw w4 w5 wr.heap.size none) := hide (by rw [h5]; exact Tw.set_ _ _ _ _ _)
          clear h5 n2 z2 N4 N3
          have U5 := hide ((U3.out.trans (Tw.of_ext G4.out gp none)).new V5.out (Nat.le_refl _))
          have P5 := hide (V5.out.blk (P3.out.ext G4.out) hgg (by simp))
          have hlt4 := O4.out.lt
          have hsz4 := G4.out.size
          have hsz5 := V5.out.size
          have HD : Hid (∀ a, dA = some a → w3.heap.size ≤ a.block ∧ a.block < w4.heap.size) := hide (fun a ha => by subst ha; exact hlt4 a.block rfl)
          have OK5 : Hid (NdOk w5 b (fun k => w3.heap.size ≤ k ∧ k < w4.heap.size) ⟨⟨k, fo, dA, (cutB b d x).length, dc, none, 0, 0⟩, g, d, x, none, 0, 0⟩ (.mk k fo g d x [])) := hide (by
            refine ⟨⟨?_, rfl, rfl, rfl⟩, NdsAt.nil _ _ _⟩
            rw [HBO.out]
            exact ⟨⟨rfl, rfl, Q4.out.tw V5.out (fun a ha => ⟨by have := (HD.out a ha).1; omega, by simp⟩), HD.out⟩, BxsAt.nil _ _⟩)
          clear hlt4
          have R5 := hide (HI.out.row.tw U5.out hg0)
          have T5 := hide (HI.out.tw.trans U5.out)
          obtain ⟨i1_, hi1, hy0, hy1, hy2⟩ := info_parts Try.info122
          have hll : hs.length ≤ 1000000 := by have := HI.out.row.len; have := HI.out.few; omega
          have L1 : Hid (hs.length + 1 ≤ maxLen) := hide (by unfold maxLen; omega)
          have L2 : Hid ((hs.length + 1) * 120 ≤ 140737488355328) := hide (by omega)
          have hsz6 : w.heap.size ≤ w5.heap.size := T5.out.size
          have L3 : Hid (w.heap.size ≤ (w5.alloc (.cells #[.string ⟨k.toArray⟩, .int .i64 fo, .slice dA (cutB b d x).length dc, .slice none 0 0, .int .i64 (g : Int), .int .i64 (d : Int), .int .i64 (x : Int), .slice none 0 0] 122)).heap.size) := hide (by rw [World.size_alloc]; omega)
          have HOW := HI.out.row.own.lt
          have HNE : Hid (some wr.heap.size ≠ u11.ownBlock) := hide (fun e => by have := (HOW _ e.symm).2; omega)
          have HNP : Hid (some gp ≠ u11.ownBlock) := hide (fun e => by have := (HOW _ e.symm).1; omega)
          have HRW : Hid (∀ q, u11.ownBlock = some q → w.heap.size ≤ q ∨ q = gp) := hide (fun q hq => .inl (HOW q hq).1)
          have HRL : Hid (∀ q, u11.ownBlock = some q → q < wr.heap.size) := hide (fun q hq => (HOW q hq).2)
          clear HOW
          have HEL : Hid (At (w5.alloc (.cells #[.string ⟨k.toArray⟩, .int .i64 fo, .slice dA (cutB b d x).length dc, .slice none 0 0, .int .i64 (g : Int), .int .i64 (d : Int), .int .i64 (x : Int), .slice none 0 0] 122)) 8 eNd (some ⟨w5.heap.size, 0, none⟩) 1 1 [(⟨⟨k, fo, dA, (cutB b d x).length, dc, none, 0, 0⟩, g, d, x, none, 0, 0⟩ : NodeH)]) := hide (At.newE (enc := eNd) w5 ⟨⟨k, fo, dA, (cutB b d x).length, dc, none, 0, 0⟩, g, d, x, none, 0, 0⟩ _ _ rfl)
          have m0 : w5.cell? ⟨wr.heap.size, 0, none⟩ = some (.string ⟨k.toArray⟩) := N5.out.cell 0
          have m1 : w5.cell? ⟨wr.heap.size, 1, none⟩ = some (.int .i64 fo) := N5.out.cell 1
          have m2 : w5.cell? ⟨wr.heap.size, 2, none⟩ = some (.slice dA (cutB b d x).length dc) := N5.out.cell 2
          have m3 : w5.cell? ⟨wr.heap.size, 3, none⟩ = some (.slice none 0 0) := N5.out.cell 3
          have m4 : w5.cell? ⟨wr.heap.size, 4, none⟩ = some (.int .i64 (g : Int)) := N5.out.cell 4
          have m5 : w5.cell? ⟨wr.heap.size, 5, none⟩ = some (.int .i64 (d : Int)) := N5.out.cell 5
          have m6 : w5.cell? ⟨wr.heap.size, 6, none⟩ = some (.int .i64 (x : Int)) := N5.out.cell 6
          have m7 : w5.cell? ⟨wr.heap.size, 7, none⟩ = some (.slice none 0 0) := N5.out.cell 7
          go_wp2_with (at_builtin; refine wpList_append_at _ rfl (.tmp 97) (.tmp 99) 69 rfl w.heap.size 122 i1_ _ 120 Try.underlying69 hi1 hy0 hy1 hy2 rfl (by omega) len_eNd one_eNd u11 hs (by rfl) (R5.out.own.ext (Ext.alloc _ _)) (some ⟨w5.heap.size, 0, none⟩) 1 1 [⟨⟨k, fo, dA, (cutB b d x).length, dc, none, 0, 0⟩, g, d, x, none, 0, 0⟩] (by rfl) HEL.out L1.out L2.out L3.out ?_; intro v6 w6 o6 g6 _ r6; have O6 := hide o6; have G6 := hide g6; have R6 := hide r6; have n6 : w6.cell? ⟨wr.heap.size, 6, none⟩ = some (.int .i64 (x : Int)) := ((N5.out.alloc _).grown g6 HNE.out).cell 6; clear o6 g6 r6)
          have hx1 : (t : Int) - (x : Int) < (t : Int) - (g : Int) := by omega
          exact ⟨⟨x, (cn + 1), hs ++ [⟨⟨k, fo, dA, (cutB b d x).length, dc, none, 0, 0⟩, g, d, x, none, 0, 0⟩], l ++ [(.mk k fo g d x [])], rfl, hide ⟨by omega, by omega, by omega, by rw [HPR.out, pre_pre], by have := HI.out.few; simp; omega, (P5.out.alloc _).grown G6.out HNP.out, R5.out.snoc OK5.out (fun q hq => ⟨by omega, by omega, fun e => by have := HRL.out q e; omega⟩) (Ext.alloc _ _) O6.out G6.out R6.out, (T5.out.trans (Tw.of_ext (Ext.alloc _ _) gp none)).row G6.out HRW.out⟩⟩, by simp [intOf]; omega⟩
    · obtain rfl : t = g := by omega
      obtain ⟨N, c2, rfl, _⟩ := HI.out.row.own.at_ len_eNd
      have i1 : ¬ (t : Int) < (t : Int) := by omega
      go_wp2_with fail
      refine bodyPost_ret (v := .tuple #[.slice N hs.length c2, .int .i64 0, .int .i64 0]) (by simp [results, Try.results52, go_sem]) rfl HI.out.fin
end Go.Proofs.Ytkbmgakehlmcnaa
