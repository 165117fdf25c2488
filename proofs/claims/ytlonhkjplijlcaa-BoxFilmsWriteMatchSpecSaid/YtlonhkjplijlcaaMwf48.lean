/- Several texts in one: Walks: parse and Parse (program). Conditions as stated; Walk: awake. Conditions: none. -/
import Derived.Test.YtlonhkjplijlcaaMwf07
namespace Go.Proofs.Ytlonhkjplijlcaa
open Go.RowKit
theorem nodes_any (m : Nat) : NodStmt m := Nat.strongRecOn (motive := NodStmt) m fun m ih => nodes_step m ih
/-- How bytes are read as boxes. -/
def parseF (b : List UInt8) : ParR := if 1000000 < b.length then .err 0 2 else parF b 0 b.length 0 0
/-- What parse gives. -/
def ParGives (w : World) (b : List UInt8) (r : ParR) (e : Ending) (w' : World) : Prop :=
  Ext w w' ∧ (∀ a f, r = .err a f → e = .returned (.tuple #[.slice none 0 0, .int .i64 (a : Int), .int .i64 f])) ∧
  (∀ l cc, r = .ok l cc → ∃ N c2, e = .returned (.tuple #[.slice N l.length c2, .int .i64 0, .int .i64 0]) ∧ NdsAt w' b (fun k => w.heap.size ≤ k ∧ k < w'.heap.size) N l.length c2 l)
set_option maxRecDepth 100000 in
set_option maxHeartbeats 2000000 in
theorem parse_any {A : Option Addr} {n c : Nat} {b : List UInt8} {w : World} (h : At w 1 e8 A n c b) :
    Calls Try.prog 28 #[.slice A n c] w (ParGives w b (parseF b)) := by
  have hl := h.len
  have hbd := h.bound
  have hA := fun hn0 => h.blk_lt len_e8 (by omega) hn0
  by_cases hn : 1000000 < n
  · have HV : Hid (parseF b = .err 0 2) := hide (by unfold parseF; rw [if_pos (by omega)])
    clear hl h hA
    go_enter Try.func28, Try.ntmps28
    go_wp2_with fail
    refine bodyPost_ret (v := .tuple #[.slice none 0 0, .int .i64 0, .int .i64 2]) (by simp [results, Try.results28, go_sem]) rfl ⟨Ext.refl _, fun a f e => by rw [HV.out] at e; cases e; rfl, fun l cc e => by rw [HV.out] at e; cases e⟩
  have HV : Hid (parseF b = parF b 0 n 0 0) := hide (by unfold parseF; rw [if_neg (by omega), hl])
  have hk := Blk.new w 112 #[.slice A n c, .int .i64 0]
  have HN := nodes_any n (gp := w.heap.size) (f := 0) (t := n) (depth := 0) (cnt := 0) (A := A) (n := n) (c := c) (b := b) (w := w.alloc (.cells #[.slice A n c, .int .i64 0] 112)) (by omega) hk (h.ext (Ext.alloc _ _)) (fun hn0 a ha => by have := hA hn0 a ha; omega) (by omega) (Nat.le_refl _) (by omega) (by omega) (by omega)
  rw [show ((0 : Nat) : Int) = 0 from rfl] at HN
  have HNK := hide HN
  clear HN hk hl h
  go_enter Try.func28, Try.ntmps28
  go_wp2_with fail
  with_reducible refine HNK.out.mono ?_
  intro e w1 hg
  obtain ⟨t1, _, herr, hok⟩ := hg
  have E1 : Ext w w1 := ⟨t1.os, t1.tape, t1.output, by have := t1.size; rw [World.size_alloc] at this; omega, fun k hk => (t1.block k (by rw [World.size_alloc]; omega) (by omega) (by simp)).trans ((Ext.alloc w (.cells #[.slice A n c, .int .i64 0] 112)).block k hk)⟩
  have hs1 : w.heap.size + 1 ≤ w1.heap.size := by have := t1.size; rw [World.size_alloc] at this; omega
  rw [← HV.out] at herr hok
  cases hq : parseF b with
  | err a f =>
    have he := herr a f hq
    subst he
    have HE := hide E1
    have HQ := hide hq
    clear herr hok hq E1 t1
    go_wp2_with fail
    refine bodyPost_ret (v := .tuple #[.slice none 0 0, .int .i64 (a : Int), .int .i64 f]) (by simp [results, Try.results28, go_sem]) rfl ⟨HE.out, (fun a' f' e => by rw [HQ.out] at e; cases e; rfl), fun l cc e => by rw [HQ.out] at e; cases e⟩
  | ok l cc =>
    obtain ⟨N, c2, he, hnd⟩ := hok l cc hq
    subst he
    have HE := hide E1
    have HQ := hide hq
    have HND := hide (hnd.good (H := fun k => w.heap.size ≤ k ∧ k < w1.heap.size) (fun _ _ => rfl) (fun k hk => ⟨by have := hk.1; rw [World.size_alloc] at this; omega, hk.2⟩))
    clear herr hok hq E1 t1 hnd
    go_wp2_with fail
    refine bodyPost_ret (v := .tuple #[.slice N l.length c2, .int .i64 0, .int .i64 0]) (by simp [results, Try.results28, go_sem]) rfl ⟨HE.out, (fun a' f' e => by rw [HQ.out] at e; cases e), fun l cc e => by rw [HQ.out] at e; cases e; exact ⟨N, c2, rfl, HND.out⟩⟩
/-- What Parse gives. -/
def PrsGives (w : World) (b : List UInt8) (r : ParR) (e : Ending) (w' : World) : Prop :=
  Ext w w' ∧ (∀ a f, r = .err a f → e = .returned (.tuple #[.slice none 0 0, .int .i64 (a : Int), .int .i64 f])) ∧
  (∀ l cc, r = .ok l cc → ∃ N c2, e = .returned (.tuple #[.slice N l.length c2, .int .i64 0, .int .i64 0]) ∧ BxsAt w' (fun k => w.heap.size ≤ k ∧ k < w'.heap.size) N l.length c2 (boxesOf b l))
theorem parseF_err {b : List UInt8} {a : Nat} {f : Int} (h : parseF b = .err a f) : (f != 0) = true := by
  unfold parseF at h
  split at h
  · cases h; rfl
  · exact parF_err h
set_option maxRecDepth 100000 in
set_option maxHeartbeats 4000000 in
theorem keyParse_any {A : Option Addr} {n c : Nat} {b : List UInt8} {w : World} (h : At w 1 e8 A n c b) :
    Calls Try.prog 27 #[.slice A n c] w (PrsGives w b (parseF b)) := by
  have HP := hide (parse_any h)
  clear h
  go_enter Try.func27, Try.ntmps27
  go_wp2_with fail
  with_reducible refine HP.out.mono ?_
  intro e w1 hg
  obtain ⟨e1, herr, hok⟩ := hg
  have E1 := hide e1
  cases hq : parseF b with
  | err a f =>
    have he := herr a f hq
    have hf := parseF_err hq
    have HQ := hide hq
    subst he
    clear herr hok hq e1
    go_wp2_with fail
    refine bodyPost_ret (v := .tuple #[.slice none 0 0, .int .i64 (a : Int), .int .i64 f]) (by simp [results, Try.results27, go_sem]) rfl ⟨E1.out, (fun a' f' e => by rw [HQ.out] at e; cases e; rfl), fun l cc e => by rw [HQ.out] at e; cases e⟩
  | ok l cc =>
    obtain ⟨N, c2, he, hnd⟩ := hok l cc hq
    subst he
    have HQ := hide hq
    obtain ⟨hs, hat, hgN, hl3, h31⟩ : ∃ hs : List NodeH, At w1 8 eNd N l.length c2 hs ∧ InG (fun q => w.heap.size ≤ q ∧ q < w1.heap.size) N ∧ hs.length = l.length ∧ (∀ (i : Nat) (y : NodeH) (x : NodeT), hs[i]? = some y → l[i]? = some x → NdHd w1 b (fun q => w.heap.size ≤ q ∧ q < w1.heap.size) y x) := by
      cases hnd with
      | mk hs l3 a1 a2 a3 a4 a5 => exact ⟨hs, a1, a2, a3, a4⟩
    have HAT := hide hat
    have HL3 := hide hl3
    have H31 := hide h31
    have hsz1 := e1.size
    generalize hkn : l.length = kn at *
    have HKN := hide hkn
    have hkb := hat.bound
    have hkm : kn ≤ 1000000 := by
      unfold parseF at hq
      split at hq
      · cases hq
      · have := (parF_count hq (by omega)).2; omega
    clear herr hok hq e1 hnd hat hgN hl3 h31 hkn
    obtain ⟨i2_, hi2, hu0, hu1, hu2⟩ := info_parts Try.info47
    go_wp2_with fail
    go_loopw [8, 23] (fun rv rj wr => ∃ j : Nat, j ≤ kn ∧ rj = .int .i64 (j : Int) ∧ Hid (Own wr w1.heap.size 47 4 eBx rv ((hs.take j).map NodeH.box)) ∧ Hid (Ext w1 wr)) (fun _ rj _ => kn - (intOf rj).toNat)
    case atStart => exact ⟨0, by omega, rfl, hide (Own.nil _ _ _ _ _), hide (Ext.refl _)⟩
    case round =>
      obtain ⟨j, hj, rfl, HO, HW⟩ := hrel
      have hlh : hs.length = kn := HL3.out
      by_cases hjl : j < kn
      · obtain ⟨bN, oN, rfl, _⟩ := HAT.out.addr (by omega)
        have hatj := HAT.out.ext HW.out
        have hjh : j < hs.length := by omega
        obtain ⟨y, hy⟩ : ∃ y : NodeH, hs.getD j default = y := ⟨_, rfl⟩
        have htk : (hs.take (j + 1)).map NodeH.box = (hs.take j).map NodeH.box ++ [y.box] := by
          rw [List.take_succ_eq_append_getElem hjh, List.map_append, ← hy]; simp [List.getD, hjh]
        have hlt3 : ((hs.take j).map NodeH.box).length = j := by simp; omega
        obtain ⟨⟨yk, yf, yd, yn, yc, ya, yan, yac⟩, yb, ydt, ye, na, nn, nc⟩ := y
        have e0 : wr.cell? ⟨bN, oN + j * 8, none⟩ = some (.string ⟨yk.toArray⟩) := hatj.cellK hjl default 0 _ (by rw [hy]; rfl)
        have e1 : wr.cell? ⟨bN, oN + j * 8 + 1, none⟩ = some (.int .i64 yf) := hatj.cellK hjl default 1 _ (by rw [hy]; rfl)
        have e2 : wr.cell? ⟨bN, oN + j * 8 + 2, none⟩ = some (.slice yd yn yc) := hatj.cellK hjl default 2 _ (by rw [hy]; rfl)
        have e3 : wr.cell? ⟨bN, oN + j * 8 + 3, none⟩ = some (.slice ya yan yac) := hatj.cellK hjl default 3 _ (by rw [hy]; rfl)
        have e4 : wr.cell? ⟨bN, oN + j * 8 + 4, none⟩ = some (.int .i64 (yb : Int)) := hatj.cellK hjl default 4 _ (by rw [hy]; rfl)
        have e5 : wr.cell? ⟨bN, oN + j * 8 + 5, none⟩ = some (.int .i64 (ydt : Int)) := hatj.cellK hjl default 5 _ (by rw [hy]; rfl)
        have e6 : wr.cell? ⟨bN, oN + j * 8 + 6, none⟩ = some (.int .i64 (ye : Int)) := hatj.cellK hjl default 6 _ (by rw [hy]; rfl)
        have e7 : wr.cell? ⟨bN, oN + j * 8 + 7, none⟩ = some (.slice na nn nc) := hatj.cellK hjl default 7 _ (by rw [hy]; rfl)
        have HTK := hide htk
        have M1 : Hid (((hs.take j).map NodeH.box).length + 1 ≤ maxLen) := hide (by rw [hlt3]; unfold maxLen; omega)
        have M2 : Hid ((((hs.take j).map NodeH.box).length + 1) * 72 ≤ 140737488355328) := hide (by rw [hlt3]; omega)
        have i2 : (j : Int) < (kn : Int) := by omega
        have hws := HW.out.size
        clear hy htk hlt3 hatj hlh
        go_upto_region 8 with (fail)
        refine gen_wpC fun w6 h6 => ?_
        have K6 : Hid (Blk w6 wr.heap.size 109 #[.string ⟨yk.toArray⟩, .int .i64 yf, .slice yd yn yc, .slice ya yan yac, .int .i64 (yb : Int), .int .i64 (ydt : Int), .int .i64 (ye : Int), .slice na nn nc]) := hide (by rw [h6]; exact Blk.new _ _ _)
        have E6 : Hid (Ext wr w6) := hide (by rw [h6]; exact Ext.alloc _ _)
        have hk6 := K6.out.lt
        clear h6 e0 e1 e2 e3 e4 e5 e6 e7
        have k0 : w6.cell? ⟨wr.heap.size, 0, none⟩ = some (.string ⟨yk.toArray⟩) := K6.out.cell 0
        have k1 : w6.cell? ⟨wr.heap.size, 1, none⟩ = some (.int .i64 yf) := K6.out.cell 1
        have k2 : w6.cell? ⟨wr.heap.size, 2, none⟩ = some (.slice yd yn yc) := K6.out.cell 2
        have k3 : w6.cell? ⟨wr.heap.size, 3, none⟩ = some (.slice ya yan yac) := K6.out.cell 3
        have O6 := hide (HO.out.ext E6.out)
        have AT6 : Hid (At (w6.alloc (.cells #[.string ⟨yk.toArray⟩, .int .i64 yf, .slice yd yn yc, .slice ya yan yac] 47)) 4 eBx (some ⟨w6.heap.size, 0, none⟩) 1 1 [(⟨yk, yf, yd, yn, yc, ya, yan, yac⟩ : BoxH)]) := hide (At.newE (enc := eBx) w6 _ _ _ rfl)
        have M3 : Hid (w1.heap.size ≤ (w6.alloc (.cells #[.string ⟨yk.toArray⟩, .int .i64 yf, .slice yd yn yc, .slice ya yan yac] 47)).heap.size) := hide (by rw [World.size_alloc]; omega)
        go_wp2_with (at_builtin; refine wpList_append_at _ rfl (.tmp 27) (.tmp 30) 45 rfl w1.heap.size 47 i2_ _ 72 Try.underlying45 hi2 hu0 hu1 hu2 rfl (by omega) len_eBx one_eBx _ _ (by rfl) (O6.out.ext (Ext.alloc _ _)) (some ⟨w6.heap.size, 0, none⟩) 1 1 [(⟨yk, yf, yd, yn, yc, ya, yan, yac⟩ : BoxH)] (by rfl) AT6.out M1.out M2.out M3.out ?_; intro v7 w7 o7 g7 _ _; have O7 := hide o7; have E7 : Hid (Ext w1 w7) := hide (Own.below (w0 := w1) (O6.out.ext (Ext.alloc _ _)) (Ext.trans (Ext.trans HW.out E6.out) (Ext.alloc _ _)) g7 (Nat.le_refl _)); clear o7 g7)
        exact ⟨⟨j + 1, by omega, by go_num, by rw [HTK.out]; exact O7, E7⟩, by simp [intOf]; omega⟩
      · obtain rfl : kn = j := by omega
        obtain ⟨kA, kc, hvk, hatk⟩ := HO.out.at_ len_eBx
        have htl : (hs.take kn).map NodeH.box = hs.map NodeH.box := by rw [← hlh, List.take_length]
        rw [htl] at hatk hvk
        rw [show (hs.map NodeH.box).length = kn by rw [List.length_map, hlh]] at hatk hvk
        subst hvk
        have hws := HW.out.size
        have hlk := HO.out.lt
        have HBX : Hid (BxsAt wr (fun q => w.heap.size ≤ q ∧ q < wr.heap.size) kA kn kc (boxesOf b l)) := hide (by
          have hel : ∀ (i : Nat) (y : BoxH) (x : BoxT), (hs.map NodeH.box)[i]? = some y → (boxesOf b l)[i]? = some x → BxOk wr (fun q => w.heap.size ≤ q ∧ q < wr.heap.size) y x := by
            intro i y x hy hx
            rw [boxesOf_map] at hx
            rw [List.getElem?_map] at hy hx
            cases h5 : hs[i]? with
            | none => rw [h5] at hy; cases hy
            | some z =>
              cases h6 : l[i]? with
              | none => rw [h6] at hx; cases hx
              | some x0 =>
                rw [h5] at hy
                rw [h6] at hx
                cases hy
                cases hx
                exact (H31.out i z x0 h5 h6).1.good (fun q hq => HW.out.block q hq.2) (fun q hq => ⟨hq.1, by omega⟩)
          exact .mk (hs.map NodeH.box) (boxesOf b l) hatk (fun a ha => by subst ha; have := hlk a.block rfl; exact ⟨by omega, this.2⟩) (by rw [boxesOf_map, List.length_map, List.length_map, HL3.out, HKN.out]) (fun i y x hy hx => (hel i y x hy hx).1) (fun i y x hy hx => (hel i y x hy hx).2))
        have i2 : ¬ (kn : Int) < (kn : Int) := by omega
        clear hatk htl hlk hlh
        go_wp2_with fail
        refine bodyPost_ret (v := .tuple #[.slice kA kn kc, .int .i64 0, .int .i64 0]) (by simp [results, Try.results27, go_sem]) rfl ⟨Ext.trans E1.out HW.out, (fun a' f' e => by rw [HQ.out] at e; cases e), fun l' cc' e => by rw [HQ.out] at e; cases e; exact ⟨kA, kc, by first | rfl | rw [HKN.out], by first | exact HBX.out | (rw [HKN.out]; exact HBX.out)⟩⟩
end Go.Proofs.Ytlonhkjplijlcaa
namespace Go.Proofs.Ytlonhkjplijlcaa
open Go.RowKit
/-- A fresh block of bytes reads as its list. -/
theorem At.newB (w : World) (l : List UInt8) (cs : Array Value) (t : TypeId) (hc : cs.toList = l.map B8) (hl : l.length ≤ maxLen) : At (w.alloc (.cells cs t)) 1 e8 (some ⟨w.heap.size, 0, none⟩) l.length l.length l :=
  ⟨rfl, Nat.le_refl _, hl, fun h => (by cases h), fun k z hz => ⟨_, _, rfl, fun j v hv => by
    match j, hv with
    | 0, hv =>
      simp at hv; subst hv
      have := (Blk.new w t cs).cell k
      rw [show 0 + k * 1 + 0 = k by omega, this]
      have h2 : cs.toList[k]? = some (B8 z) := by rw [hc, List.getElem?_map, hz]; rfl
      simpa using h2
    | j + 1, hv => simp at hv⟩⟩
theorem parse_awake : parseF [0, 0, 0, 9, 97, 98, 99, 100, 7] = .ok [.mk [97, 98, 99, 100] 0 0 8 9 []] 1 := by kernel_rfl
set_option maxRecDepth 100000 in
set_option maxHeartbeats 1000000 in
theorem awake_any (w : World) : Calls Try.prog 9 #[] w fun e w' => e = .returned (.bool true) ∧ Ext w w' := by
  have hat : At (w.alloc (.cells #[.int .u8 0, .int .u8 0, .int .u8 0, .int .u8 9, .int .u8 97, .int .u8 98, .int .u8 99, .int .u8 100, .int .u8 7] 5)) 1 e8 (some ⟨w.heap.size, 0, none⟩) 9 9 [0, 0, 0, 9, 97, 98, 99, 100, 7] := At.newB w [0, 0, 0, 9, 97, 98, 99, 100, 7] #[.int .u8 0, .int .u8 0, .int .u8 0, .int .u8 9, .int .u8 97, .int .u8 98, .int .u8 99, .int .u8 100, .int .u8 7] 5 rfl (by unfold maxLen; simp)
  have HP := hide (keyParse_any hat)
  clear hat
  go_enter Try.func9, Try.ntmps9
  go_wp2_with fail
  with_reducible refine HP.out.mono ?_
  intro e w1 hg
  obtain ⟨e1, _, hok⟩ := hg
  obtain ⟨N, c2, he, hbx⟩ := hok _ _ parse_awake
  have E1 := hide e1
  have hk : (boxesOf [0, 0, 0, 9, 97, 98, 99, 100, 7] [.mk [97, 98, 99, 100] 0 0 8 9 []]) = [.mk [97, 98, 99, 100] 0 [7] []] := rfl
  rw [hk] at hbx
  have he : e = .returned (.tuple #[.slice N 1 c2, .int .i64 0, .int .i64 0]) := he
  subst he
  obtain ⟨hs, hat, hl, h1⟩ : ∃ hs : List BoxH, At w1 4 eBx N 1 c2 hs ∧ hs.length = 1 ∧ (∀ (i : Nat) (y : BoxH) (x : BoxT), hs[i]? = some y → [BoxT.mk [97, 98, 99, 100] 0 [7] []][i]? = some x → BxHd w1 (fun k => (w.alloc (.cells #[.int .u8 0, .int .u8 0, .int .u8 0, .int .u8 9, .int .u8 97, .int .u8 98, .int .u8 99, .int .u8 100, .int .u8 7] 5)).heap.size ≤ k ∧ k < w1.heap.size) y x) := by
    cases hbx with
    | mk hs l3 a1 a2 a3 a4 a5 => exact ⟨hs, a1, a3, a4⟩
  match hs, hl with
  | [y], _ =>
    have hy := (h1 0 y _ rfl rfl).1
    obtain ⟨bN, oN, rfl, _⟩ := hat.addr (by omega)
    have c0 := hat.cellK (k := 0) (by omega) y 0 _ rfl
    rw [Nat.zero_mul, Nat.add_zero, show [y].getD 0 y = y from rfl, hy] at c0
    have c0 : w1.cell? ⟨bN, oN, none⟩ = some (.string ⟨#[97, 98, 99, 100]⟩) := c0
    clear e1 hok hbx hk hat h1 hy HP
    go_wp2_with fail
    go_ret
    exact ⟨rfl, Ext.trans (Ext.alloc _ _) E1.out⟩
end Go.Proofs.Ytlonhkjplijlcaa
