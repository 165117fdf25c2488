/- Walk: follow of the document, with choices given. Conditions: as stated. -/
import Derived.Test.YtjbgkoeojfmkkaaCrsC
import Derived.Test.YtjbgkoeojfmkkaaCrsT
import Derived.Test.YtjbgkoeojfmkkaaWithP
namespace Go.Proofs.Ytjbgkoeojfmkkaa
open Go.RowKit

theorem Try.infoHaul : (Try.prog.info? 97).map (fun i => (i.zero, i.size, i.bytes)) = some (some (.agg #[.int .i64 0, .int .i64 0]), 2, 16) := by kernel_rfl
/-- What the appends read. -/
def ApS (g : Nat) (c1 c2 c3 : Value) (W : World) : Prop := W.cell? ⟨g, 0, none⟩ = some c1 ∧ W.cell? ⟨g, 1, none⟩ = some c2 ∧ W.cell? ⟨g, 2, none⟩ = some c3
theorem ApS.ext {g : Nat} {c1 c2 c3 : Value} {w w' : World} (h : ApS g c1 c2 c3 w) (he : Ext w w') : ApS g c1 c2 c3 w' := ⟨he.cell h.1, he.cell h.2.1, he.cell h.2.2⟩
theorem passR_zero : passR 0 WaT.zero = WaT.zero := rfl
section
variable {lA : Option Addr} {ln lc : Nat} {sA : Option Addr} {sn sc : Nat} {qA : Option Addr} {qn qc : Nat} {d0 s0 r0 f0 i0 k0 l0 t0 lo0 hi0 a0 x0 y0 z0 gw gb : Int} {L : List Int} {S : List (List Int)} {Q : List Int} {C : List Int} {av : Int → Int → Int} {w : World} {cA : Option Addr} {cn cc : Nat} {tA : Option Addr} {tn tc : Nat}
end
section
variable {lA : Option Addr} {ln lc : Nat} {sA : Option Addr} {sn sc : Nat} {qA : Option Addr} {qn qc : Nat} {d0 s0 r0 f0 i0 k0 l0 t0 lo0 hi0 a0 x0 y0 z0 gw gb : Int} {L : List Int} {S : List (List Int)} {Q : List Int} {C : List Int} {av : Int → Int → Int} {w : World} {cA : Option Addr} {cn cc : Nat} {tA : Option Addr} {tn tc : Nat}
set_option maxRecDepth 1000000 in
set_option maxHeartbeats 32000000 in
theorem refFollow_any {M D : Int} (hS : Shw w lA ln lc sA sn sc qA qn qc L S Q) (hC : At w 1 e64 cA cn cc C) (hcl : C.length = L.length) (hl0 : 0 < L.length) (hrow : ∀ i, i < S.length → (S.getD i []).length = L.length) (hsz : ∀ i j, 0 ≤ (S.getD i []).getD j 0 ∧ (S.getD i []).getD j 0 ≤ 1000000000)
    (hR : RunOk f0 s0 r0 L S (gvF C) av M D) (hMD : M + 200 * D ≤ 500000000000000000) (hd0 : 0 ≤ d0 ∧ d0 ≤ 1000000) (hf0 : 0 ≤ f0 ∧ f0 ≤ 1000000000)
    (hA : (gb ≤ 0 ∧ ∀ W, Ext w W → ∀ n, n < L.length → Calls Try.prog 74 #[.slice tA tn tc, .int .i64 (asN f0 s0 r0 L S (gvF C) av n + d0), .int .i64 (zN f0 s0 r0 L S (gvF C) av n)] W fun e w' => e = .returned (.int .i64 (tN f0 s0 r0 L S (gvF C) av n)) ∧ Ext W w') ∨
      (0 < gb ∧ gb ≤ 1000000000 ∧ 0 ≤ gw ∧ gw ≤ 1000000000 ∧ ∀ n, n < L.length → tN f0 s0 r0 L S (gvF C) av n = asN f0 s0 r0 L S (gvF C) av n + d0 + gw * ((zN f0 s0 r0 L S (gvF C) av n + gb - 1) / gb))) :
    Calls Try.prog 46 #[shV lA ln lc sA sn sc qA qn qc, .slice tA tn tc, .agg #[.int .i64 d0, .int .i64 s0, .int .i64 r0, .int .i64 f0, .int .i64 i0, .int .i64 k0, .int .i64 l0, .int .i64 t0, .int .i64 lo0, .int .i64 hi0, .int .i64 a0, .int .i64 x0, .int .i64 y0, .int .i64 z0], .slice cA cn cc, .agg #[.int .i64 gw, .int .i64 gb]] w (FolGives w L.length (folF f0 s0 r0 L S (gvF C) av L.length)) := by
  have HLL := hS.longs.len
  have hbn := hS.longs.bound
  have hfew := hR.few
  have HCL := hC.len
  have HSS := hide hS
  have HC := hide hC
  have HR := hide hR
  have HROW := hide hrow
  have HSZ := hide hsz
  have HFL := hide (fol_len f0 s0 r0 L S (gvF C) av)
  have HX0 : Hid (Ext w (((((w.alloc (.cells #[.slice lA ln lc, .slice sA sn sc, .slice qA qn qc] 25)).alloc (.cells #[.int .i64 d0, .int .i64 s0, .int .i64 r0, .int .i64 f0, .int .i64 i0, .int .i64 k0, .int .i64 l0, .int .i64 t0, .int .i64 lo0, .int .i64 hi0, .int .i64 a0, .int .i64 x0, .int .i64 y0, .int .i64 z0] 30)).alloc (.cells #[.int .i64 gw, .int .i64 gb] 44)).alloc (.cells #[.slice none 0 0, .slice none 0 0, .slice none 0 0, .int .i64 0, .slice none 0 0, .int .i64 0] 33)).alloc (.cells #[.slice none 0 0, .slice none 0 0, .slice none 0 0, .int .i64 0, .slice none 0 0, .int .i64 0, .bool false, .bool false, .int .i64 0, .int .i64 0, .int .i64 0] 102))) := hide (ext_alloc (ext_alloc (ext_alloc (ext_alloc (Ext.alloc _ _) _) _) _) _)
  have hb0 := ((((Blk.new w 25 #[.slice lA ln lc, .slice sA sn sc, .slice qA qn qc]).alloc (.cells #[.int .i64 d0, .int .i64 s0, .int .i64 r0, .int .i64 f0, .int .i64 i0, .int .i64 k0, .int .i64 l0, .int .i64 t0, .int .i64 lo0, .int .i64 hi0, .int .i64 a0, .int .i64 x0, .int .i64 y0, .int .i64 z0] 30)).alloc (.cells #[.int .i64 gw, .int .i64 gb] 44)).alloc (.cells #[.slice none 0 0, .slice none 0 0, .slice none 0 0, .int .i64 0, .slice none 0 0, .int .i64 0] 33)).alloc (.cells #[.slice none 0 0, .slice none 0 0, .slice none 0 0, .int .i64 0, .slice none 0 0, .int .i64 0, .bool false, .bool false, .int .i64 0, .int .i64 0, .int .i64 0] 102)
  have hb1 := (((Blk.new (w.alloc (.cells #[.slice lA ln lc, .slice sA sn sc, .slice qA qn qc] 25)) 30 #[.int .i64 d0, .int .i64 s0, .int .i64 r0, .int .i64 f0, .int .i64 i0, .int .i64 k0, .int .i64 l0, .int .i64 t0, .int .i64 lo0, .int .i64 hi0, .int .i64 a0, .int .i64 x0, .int .i64 y0, .int .i64 z0]).alloc (.cells #[.int .i64 gw, .int .i64 gb] 44)).alloc (.cells #[.slice none 0 0, .slice none 0 0, .slice none 0 0, .int .i64 0, .slice none 0 0, .int .i64 0] 33)).alloc (.cells #[.slice none 0 0, .slice none 0 0, .slice none 0 0, .int .i64 0, .slice none 0 0, .int .i64 0, .bool false, .bool false, .int .i64 0, .int .i64 0, .int .i64 0] 102)
  have hb2 := ((Blk.new ((w.alloc (.cells #[.slice lA ln lc, .slice sA sn sc, .slice qA qn qc] 25)).alloc (.cells #[.int .i64 d0, .int .i64 s0, .int .i64 r0, .int .i64 f0, .int .i64 i0, .int .i64 k0, .int .i64 l0, .int .i64 t0, .int .i64 lo0, .int .i64 hi0, .int .i64 a0, .int .i64 x0, .int .i64 y0, .int .i64 z0] 30)) 44 #[.int .i64 gw, .int .i64 gb]).alloc (.cells #[.slice none 0 0, .slice none 0 0, .slice none 0 0, .int .i64 0, .slice none 0 0, .int .i64 0] 33)).alloc (.cells #[.slice none 0 0, .slice none 0 0, .slice none 0 0, .int .i64 0, .slice none 0 0, .int .i64 0, .bool false, .bool false, .int .i64 0, .int .i64 0, .int .i64 0] 102)
  have hb3 := (Blk.new (((w.alloc (.cells #[.slice lA ln lc, .slice sA sn sc, .slice qA qn qc] 25)).alloc (.cells #[.int .i64 d0, .int .i64 s0, .int .i64 r0, .int .i64 f0, .int .i64 i0, .int .i64 k0, .int .i64 l0, .int .i64 t0, .int .i64 lo0, .int .i64 hi0, .int .i64 a0, .int .i64 x0, .int .i64 y0, .int .i64 z0] 30)).alloc (.cells #[.int .i64 gw, .int .i64 gb] 44)) 33 #[.slice none 0 0, .slice none 0 0, .slice none 0 0, .int .i64 0, .slice none 0 0, .int .i64 0]).alloc (.cells #[.slice none 0 0, .slice none 0 0, .slice none 0 0, .int .i64 0, .slice none 0 0, .int .i64 0, .bool false, .bool false, .int .i64 0, .int .i64 0, .int .i64 0] 102)
  have hb4 := Blk.new ((((w.alloc (.cells #[.slice lA ln lc, .slice sA sn sc, .slice qA qn qc] 25)).alloc (.cells #[.int .i64 d0, .int .i64 s0, .int .i64 r0, .int .i64 f0, .int .i64 i0, .int .i64 k0, .int .i64 l0, .int .i64 t0, .int .i64 lo0, .int .i64 hi0, .int .i64 a0, .int .i64 x0, .int .i64 y0, .int .i64 z0] 30)).alloc (.cells #[.int .i64 gw, .int .i64 gb] 44)).alloc (.cells #[.slice none 0 0, .slice none 0 0, .slice none 0 0, .int .i64 0, .slice none 0 0, .int .i64 0] 33)) 102 #[.slice none 0 0, .slice none 0 0, .slice none 0 0, .int .i64 0, .slice none 0 0, .int .i64 0, .bool false, .bool false, .int .i64 0, .int .i64 0, .int .i64 0]
  simp only [World.size_alloc] at hb1 hb2 hb3 hb4
  have HB0 := hide hb0
  have HB1 := hide hb1
  have HB2 := hide hb2
  have HB3 := hide hb3
  have HB4 := hide hb4
  have lq0 : (((((w.alloc (.cells #[.slice lA ln lc, .slice sA sn sc, .slice qA qn qc] 25)).alloc (.cells #[.int .i64 d0, .int .i64 s0, .int .i64 r0, .int .i64 f0, .int .i64 i0, .int .i64 k0, .int .i64 l0, .int .i64 t0, .int .i64 lo0, .int .i64 hi0, .int .i64 a0, .int .i64 x0, .int .i64 y0, .int .i64 z0] 30)).alloc (.cells #[.int .i64 gw, .int .i64 gb] 44)).alloc (.cells #[.slice none 0 0, .slice none 0 0, .slice none 0 0, .int .i64 0, .slice none 0 0, .int .i64 0] 33)).alloc (.cells #[.slice none 0 0, .slice none 0 0, .slice none 0 0, .int .i64 0, .slice none 0 0, .int .i64 0, .bool false, .bool false, .int .i64 0, .int .i64 0, .int .i64 0] 102)).cell? ⟨w.heap.size, 0, none⟩ = some (.slice lA ln lc) := hb0.cell 0
  clear hb0 hb1 hb2 hb3 hb4
  have HA := hide hA
  clear hS hC hR hrow hsz hA
  obtain ⟨iH, hiH, hu0, hu1, hu2⟩ := info_parts Try.infoHaul
  obtain ⟨iI, hiI, hy0, hy1, hy2⟩ := info_parts Try.infoI
  go_enter Try.func46, Try.ntmps46
  go_wp2_with fail
  go_loopw [12, 22] (fun rl ri wr => ∃ (k : Nat) (v1 v2 v3 st ld : Value), k ≤ ln ∧ ri = .int .i64 k ∧ ld = rl ∧ Hid (RndR w wr lA ln lc sA sn sc qA qn qc d0 s0 r0 f0 i0 k0 l0 t0 lo0 hi0 a0 x0 y0 z0 gw gb v1 v2 v3 v1 v2 v3 st ld (folF f0 s0 r0 L S (gvF C) av k))) (fun _ ri _ => ln - (intOf ri).toNat)
  case atStart =>
    exact ⟨0, .slice none 0 0, .slice none 0 0, .slice none 0 0, .slice none 0 0, .slice none 0 0, by omega, rfl, rfl, hide ⟨HB4.out, Own.nil _ _ _ _ _, Own.nil _ _ _ _ _, Own.nil _ _ _ _ _, Own.nil _ _ _ _ _, Own.nil _ _ _ _ _, (fun i j _ b hb => by rcases i with _ | _ | _ | _ | _ | i <;> simp [Value.ownBlock] at hb), HB0.out, HB1.out, HB2.out, HB3.out, HX0.out⟩⟩
  case round =>
    clear HB0 HB1 HB2 HB3 HB4 HX0 lq0
    obtain ⟨k, v1, v2, v3, st, ld, hk, rfl, rfl, HF⟩ := hrel
    by_cases hlt : k < ln
    · have hkl : k < L.length := by omega
      have hD0 := HR.out.d0
      have hM0 := HR.out.m0
      have hkD : (k : Int) * D ≤ 200 * D := Int.mul_le_mul_of_nonneg_right (by omega) hD0
      have hkD0 : 0 ≤ (k : Int) * D := Int.mul_nonneg (by omega) hD0
      obtain ⟨hok, hat, hsum, hbf⟩ := HR.out.all k (by omega)
      obtain ⟨⟨hr1, hr2⟩, ht1, ht2⟩ := HR.out.comes k hkl hok hat (by omega)
      obtain ⟨hx1, hx2⟩ := HR.out.longs k hkl
      obtain ⟨hab1, hab2⟩ : (folF f0 s0 r0 L S (gvF C) av k).w.at_ ≤ asN f0 s0 r0 L S (gvF C) av k ∧ asN f0 s0 r0 L S (gvF C) av k ≤ (folF f0 s0 r0 L S (gvF C) av k).w.at_ + (folF f0 s0 r0 L S (gvF C) av k).w.buf := ask_bd hok
      obtain ⟨hz1, hz2⟩ : 0 ≤ zN f0 s0 r0 L S (gvF C) av k ∧ zN f0 s0 r0 L S (gvF C) av k ≤ 1000000000 := HSZ.out _ _
      have hb0 := hok.1
      obtain ⟨px1, px2, px3, px4, px5, px6⟩ := passR_parts (t := asN f0 s0 r0 L S (gvF C) av k) (s := (folF f0 s0 r0 L S (gvF C) av k).w) hb0 hab1
      have HASK : Hid (∀ W, Ext wr W → Calls Try.prog 71 #[.pointer (some ⟨(w.heap.size + 1 + 1 + 1 + 1), 0, none⟩), .agg #[.int .i64 d0, .int .i64 s0, .int .i64 r0, .int .i64 f0, .int .i64 i0, .int .i64 k0, .int .i64 l0, .int .i64 t0, .int .i64 lo0, .int .i64 hi0, .int .i64 a0, .int .i64 x0, .int .i64 y0, .int .i64 z0], .int .i64 (L.getD k 0)] W fun e w' => e = .returned (.int .i64 (asN f0 s0 r0 L S (gvF C) av k)) ∧ Ext W w') := hide (fun W hW => by
        have := asks_any (sts := (folF f0 s0 r0 L S (gvF C) av k).w.stalls) (d0 := d0) (s0 := s0) (r0 := r0) (f0 := f0) (i0 := i0) (k0 := k0) (l0 := l0) (t0 := t0) (lo0 := lo0) (hi0 := hi0) (a0 := a0) (x0 := x0) (y0 := y0) (z0 := z0) (HF.out.crs.ext hW) ⟨hat, by omega⟩ ⟨hb0, by omega⟩ ⟨hx1, hx2⟩ hf0
        rw [show askR f0 (L.getD k 0) ⟨(folF f0 s0 r0 L S (gvF C) av k).w.at_, (folF f0 s0 r0 L S (gvF C) av k).w.buf, (folF f0 s0 r0 L S (gvF C) av k).w.plays, (folF f0 s0 r0 L S (gvF C) av k).w.begun, (folF f0 s0 r0 L S (gvF C) av k).w.stalled, (folF f0 s0 r0 L S (gvF C) av k).w.beg, (folF f0 s0 r0 L S (gvF C) av k).w.stalls⟩ = asN f0 s0 r0 L S (gvF C) av k from ask_same hok] at this
        exact this)
      have HRST : Hid (∀ W, Ext wr W → Calls Try.prog 72 #[.pointer (some ⟨(w.heap.size + 1 + 1 + 1 + 1), 0, none⟩), .int .i64 (asN f0 s0 r0 L S (gvF C) av k)] W (PasGives W (w.heap.size + 1 + 1 + 1 + 1) v1 v2 v3 st 0 (passR (asN f0 s0 r0 L S (gvF C) av k) (folF f0 s0 r0 L S (gvF C) av k).w))) := hide (fun W hW => rest_any (sts := (folF f0 s0 r0 L S (gvF C) av k).w.stalls) (HF.out.crs.ext hW) ⟨hat, by omega⟩ ⟨hb0, by omega⟩ ⟨hab1, by omega⟩)
      have HK0 : Hid (k = 0 → asN f0 s0 r0 L S (gvF C) av k = 0 ∧ passR (asN f0 s0 r0 L S (gvF C) av k) (folF f0 s0 r0 L S (gvF C) av k).w = (folF f0 s0 r0 L S (gvF C) av k).w) := hide (fun h => by subst h; exact ⟨rfl, rfl⟩)
      have hstl : (passR (asN f0 s0 r0 L S (gvF C) av k) (folF f0 s0 r0 L S (gvF C) av k).w).stalls.length ≤ 1000 := by rw [px6]; exact Nat.le_trans (HFL.out k).2.2.2.2 (by omega)
      have HCM : Hid (∀ W (c1 c2 c3 v1 v2 v3 st ld : Value) (F : FoT), F.w = passR (asN f0 s0 r0 L S (gvF C) av k) (folF f0 s0 r0 L S (gvF C) av k).w → RndR w W lA ln lc sA sn sc qA qn qc d0 s0 r0 f0 i0 k0 l0 t0 lo0 hi0 a0 x0 y0 z0 gw gb c1 c2 c3 v1 v2 v3 st ld F → Calls Try.prog 75 #[.pointer (some ⟨(w.heap.size + 1 + 1 + 1 + 1), 0, none⟩), .agg #[.int .i64 d0, .int .i64 s0, .int .i64 r0, .int .i64 f0, .int .i64 i0, .int .i64 k0, .int .i64 l0, .int .i64 t0, .int .i64 lo0, .int .i64 hi0, .int .i64 a0, .int .i64 x0, .int .i64 y0, .int .i64 z0], .int .i64 (L.getD k 0), .int .i64 (tN f0 s0 r0 L S (gvF C) av k), .bool (decide (k + 1 = ln))] W (ComGives W (w.heap.size + 1 + 1 + 1 + 1) (w.heap.size + 1 + 1 + 1 + 1 + 1) c1 c2 c3 st 0 (camT s0 r0 (L.getD k 0) (tN f0 s0 r0 L S (gvF C) av k) (decide (k + 1 = L.length)) (folF f0 s0 r0 L S (gvF C) av k).w))) := hide (fun W c1 c2 c3 v1 v2 v3 st ld F hF h => by
        have hcs : comeR s0 r0 (L.getD k 0) (tN f0 s0 r0 L S (gvF C) av k) (decide (k + 1 = L.length)) (passR (asN f0 s0 r0 L S (gvF C) av k) (folF f0 s0 r0 L S (gvF C) av k).w) = camT s0 r0 (L.getD k 0) (tN f0 s0 r0 L S (gvF C) av k) (decide (k + 1 = L.length)) (folF f0 s0 r0 L S (gvF C) av k).w := came_same hok ht1
        rw [show decide (k + 1 = ln) = decide (k + 1 = L.length) by rw [HLL]]
        rw [← hcs, ← hF]
        refine come_any h.crs ⟨by rw [hF, px1]; omega, by rw [hF, px1]; omega⟩ ⟨by rw [hF]; exact px2, by rw [hF]; omega⟩ ⟨hx1, hx2⟩ ⟨by rw [hF, px1]; exact ht1, by omega⟩ h.o4 (Nat.lt_succ_self _) (Nat.succ_le_of_lt h.crs.lt) (by show F.w.stalls.length ≤ 1000; rw [hF]; exact hstl))
      obtain ⟨hl1, hl2, hl3, hl4, _⟩ := HFL.out k
      have HLN := hide (And.intro hl1 (And.intro hl2 (And.intro hl3 hl4)))
      clear hl1 hl2 hl3 hl4
      have HNX : Hid (∀ W (v1 v2 v3 st ld : Value) (F : FoT), RndR w W lA ln lc sA sn sc qA qn qc d0 s0 r0 f0 i0 k0 l0 t0 lo0 hi0 a0 x0 y0 z0 gw gb v1 v2 v3 v1 v2 v3 st ld F → F.w = camT s0 r0 (L.getD k 0) (tN f0 s0 r0 L S (gvF C) av k) (decide (k + 1 = L.length)) (folF f0 s0 r0 L S (gvF C) av k).w → F.loads = (folF f0 s0 r0 L S (gvF C) av k).loads ++ [(zN f0 s0 r0 L S (gvF C) av k, tN f0 s0 r0 L S (gvF C) av k - asN f0 s0 r0 L S (gvF C) av k)] → F.ch = (folF f0 s0 r0 L S (gvF C) av k).ch ++ [rN f0 s0 r0 L S (gvF C) av k] → F.asd = (folF f0 s0 r0 L S (gvF C) av k).asd ++ [asN f0 s0 r0 L S (gvF C) av k] → F.arr = (folF f0 s0 r0 L S (gvF C) av k).arr ++ [tN f0 s0 r0 L S (gvF C) av k] → RndR w W lA ln lc sA sn sc qA qn qc d0 s0 r0 f0 i0 k0 l0 t0 lo0 hi0 a0 x0 y0 z0 gw gb v1 v2 v3 v1 v2 v3 st ld (folF f0 s0 r0 L S (gvF C) av (k + 1))) := hide (fun W v1 v2 v3 st ld F h e1 e2 e3 e4 e5 => by
        obtain ⟨Fw, Fl, Fc, Fa, Fr, Fb⟩ := F
        simp only at e1 e2 e3 e4 e5
        subst e1 e2 e3 e4 e5
        exact ⟨h.crs, h.o1, h.o2, h.o3, h.o4, h.o5, h.ap, h.shw, h.plr, h.prm, h.ses, h.ext⟩)
      have HARR : Hid ((gb ≤ 0 ∧ ∀ W, Ext w W → Calls Try.prog 74 #[.slice tA tn tc, .int .i64 (asN f0 s0 r0 L S (gvF C) av k + d0), .int .i64 (zN f0 s0 r0 L S (gvF C) av k)] W fun e w' => e = .returned (.int .i64 (tN f0 s0 r0 L S (gvF C) av k)) ∧ Ext W w') ∨ (0 < gb ∧ gb ≤ 1000000000 ∧ 0 ≤ gw ∧ gw ≤ 1000000000 ∧ tN f0 s0 r0 L S (gvF C) av k = asN f0 s0 r0 L S (gvF C) av k + d0 + gw * ((zN f0 s0 r0 L S (gvF C) av k + gb - 1) / gb))) := hide (HA.out.imp (fun h => ⟨h.1, fun W hW => h.2 W hW k hkl⟩) (fun h => ⟨h.1, h.2.1, h.2.2.1, h.2.2.2.1, h.2.2.2.2 k hkl⟩))
      clear HA HFL HR HSZ hstl hok
      have hrow : (S.getD (rN f0 s0 r0 L S (gvF C) av k).toNat []).length = L.length := HROW.out _ (by omega)
      have hzz : zN f0 s0 r0 L S (gvF C) av k = (S.getD (rN f0 s0 r0 L S (gvF C) av k).toNat []).getD k 0 := rfl
      have hrr : rN f0 s0 r0 L S (gvF C) av k = C.getD k 0 := rfl
      generalize hF' : folF f0 s0 r0 L S (gvF C) av (k + 1) = F' at *
      have HF' := hide hF'
      clear hF'
      generalize hx1' : passR (asN f0 s0 r0 L S (gvF C) av k) (folF f0 s0 r0 L S (gvF C) av k).w = x1 at *
      have HX1 := hide hx1'
      clear hx1'
      generalize hx2' : camT s0 r0 (L.getD k 0) (tN f0 s0 r0 L S (gvF C) av k) (decide (k + 1 = L.length)) (folF f0 s0 r0 L S (gvF C) av k).w = x2 at *
      clear hx2'
      generalize folF f0 s0 r0 L S (gvF C) av k = F at *
      generalize asN f0 s0 r0 L S (gvF C) av k = a at *
      generalize rN f0 s0 r0 L S (gvF C) av k = r at *
      generalize zN f0 s0 r0 L S (gvF C) av k = z at *
      generalize tN f0 s0 r0 L S (gvF C) av k = t at *
      obtain ⟨rn, rfl⟩ : ∃ rn : Nat, r = (rn : Int) := ⟨r.toNat, by omega⟩
      rw [Int.toNat_natCast] at hrow hzz
      have hrs : rn < sn := by have := HSS.out.sizes.len; omega
      obtain ⟨bs, os, rfl⟩ := HSS.out.sizes.addr (by omega)
      obtain ⟨rA, rl', rc, hq0, hq1⟩ := HSS.out.sizes.row hrs
      have hrl := hq1.len
      obtain ⟨br, orr, rfl, _⟩ := hq1.addr (by omega)
      have hq2 := hq1.num (k := k) (by omega)
      rw [← hzz] at hq2
      obtain ⟨bl, ol, rfl, _⟩ := HSS.out.longs.addr (by omega)
      obtain ⟨bc, oc, rfl, _⟩ := HC.out.addr (by omega)
      have hcc := HC.out.num (k := k) (by omega)
      rw [← hrr] at hcc
      have hll := HSS.out.longs.num hlt
      have j0 : (0 : Int) ≤ (k : Int) := by omega
      have j1 : (k : Int) < (rl' : Int) := by omega
      have j2 : (k : Int) < (ln : Int) := by omega
      have j3 : (0 : Int) ≤ (rn : Int) := by omega
      have j4 : (rn : Int) < (sn : Int) := by omega
      have j5 : (k : Int) < (cn : Int) := by omega
      have j6 : (0 : Int) < (cn : Int) := by omega
      have HQ0 := hide hq0
      have HQ2 := hide hq2
      have HCC := hide hcc
      have HLL2 : Hid (decide (k + 1 = L.length) = decide (k + 1 = ln)) := hide (by rw [HLL])
      generalize L.getD k 0 = x at *
      clear hr1 hr2 HROW hrow hzz hrr hq1 hrl hq0 hq2 hcc
      have ll := HF.out.ext.cell hll
      have p4 := HF.out.plr.cell 4
      go_upto_if 28 with (fail)
      go_cut [15] (fun s15 wx => s15 = .int .i64 a ∧ Hid (RndR w wx (some ⟨bl, ol, none⟩) ln lc (some ⟨bs, os, none⟩) sn sc qA qn qc d0 s0 r0 f0 i0 k0 l0 t0 lo0 hi0 a0 x0 y0 z0 gw gb v1 v2 v3 v1 v2 v3 st ld { F with w := x1 }))
      case first =>
        clear HCM HNX HARR p4 ll
        by_cases hk0 : k = 0
        · subst hk0
          obtain ⟨ha0, hx0⟩ := HK0.out rfl
          have i1 : decide ((0 : Int) < ((0 : Nat) : Int)) = false := by simp
          go_wp2_with fail
          go_meet
          exact ⟨by rw [ha0], hide (by rw [hx0]; exact HF.out)⟩
        · have i1 : decide ((0 : Int) < (k : Int)) = true := by simp; omega
          have q0 := HF.out.plr.cell 0
          have q1 := HF.out.plr.cell 1
          have q2 := HF.out.plr.cell 2
          have q3 := HF.out.plr.cell 3
          have q4 := HF.out.plr.cell 4
          have q5 := HF.out.plr.cell 5
          have q6 := HF.out.plr.cell 6
          have q7 := HF.out.plr.cell 7
          have q8 := HF.out.plr.cell 8
          have q9 := HF.out.plr.cell 9
          have q10 := HF.out.plr.cell 10
          have q11 := HF.out.plr.cell 11
          have q12 := HF.out.plr.cell 12
          have q13 := HF.out.plr.cell 13
          go_wp2_with fail
          refine (HASK.out _ (Ext.refl _)).mono ?_
          rintro e w1 ⟨rfl, e1⟩
          have E1 := hide e1
          clear e1 q0 q1 q2 q3 q4 q5 q6 q7 q8 q9 q10 q11 q12 q13
          go_wp2_with fail
          refine (HRST.out _ E1.out).mono ?_
          intro e w2 hp
          obtain ⟨rfl, r2⟩ := (HF.out.ext' E1.out).pass px6 hp
          have R2 := hide r2
          clear hp r2
          go_wp2_with fail
          go_meet
          exact ⟨rfl, R2⟩
      case rest =>
        obtain ⟨rfl, R0⟩ := hcut
        clear p4 ll HF HASK HRST HK0
        have p4 := R0.out.plr.cell 4
        have p0 := R0.out.plr.cell 0
        have s1 := R0.out.shw.cell 1
        have cc' := R0.out.ext.cell HCC.out
        have q0' := R0.out.ext.cell HQ0.out
        have q2' := R0.out.ext.cell HQ2.out
        have m1 := R0.out.prm.cell 1
        have i1 : decide ((0 : Int) < (cn : Int)) = true := by simp; omega
        have i1' : decide (0 < cn) = true := by simp; omega
        have i2 : IntKind.i64.wrap (a + d0) = a + d0 := by rw [IntKind.wrap_i64]; omega
        go_upto_if 77 with (fail)
        go_cut [18] (fun s18 wx => s18 = .int .i64 t ∧ Hid (RndR w wx (some ⟨bl, ol, none⟩) ln lc (some ⟨bs, os, none⟩) sn sc qA qn qc d0 s0 r0 f0 i0 k0 l0 t0 lo0 hi0 a0 x0 y0 z0 gw gb v1 v2 v3 v1 v2 v3 st ld { F with w := x1 }))
        case first =>
          clear HCM HNX p4 p0 s1 cc' q0' q2' i1 i2
          rcases HARR.out with ⟨hg, hE⟩ | ⟨hg1, hg2, hg3, hg4, hte⟩
          · have i3 : decide ((0 : Int) < gb) = false := by simp; omega
            have HE := hide hE
            clear hE m1
            go_wp2_with fail
            refine (HE.out _ R0.out.ext).mono ?_
            rintro e w3 ⟨rfl, e3⟩
            have R3 := hide (R0.out.ext' e3)
            clear e3
            go_wp2_with fail
            go_meet
            exact ⟨rfl, R3⟩
          · have m0 := R0.out.prm.cell 0
            have hq0 : 0 ≤ (z + gb - 1) / gb := Int.ediv_nonneg (by omega) (by omega)
            have hp0 : 0 ≤ gw * ((z + gb - 1) / gb) := Int.mul_nonneg hg3 hq0
            have hq1 : (z + gb - 1) / gb ≤ z + gb - 1 := Int.ediv_le_self _ (by omega)
            have hqt : IntKind.i64.wrap ((z + gb - 1).tdiv gb) = (z + gb - 1) / gb := by rw [Int.tdiv_eq_ediv_of_nonneg (by omega), IntKind.wrap_i64]; omega
            have hqt2 : wrap64 ((z + gb - 1).tdiv gb) = (z + gb - 1) / gb := by rw [Int.tdiv_eq_ediv_of_nonneg (by omega)]; unfold wrap64; omega
            generalize (z + gb - 1) / gb = q at *
            have hmw : IntKind.i64.wrap (gw * q) = gw * q := by
              generalize gw * q = pq at *
              rw [IntKind.wrap_i64]; omega
            have hmw2 : wrap64 (gw * q) = gw * q := by
              generalize gw * q = pq at *
              unfold wrap64; omega
            have haw : IntKind.i64.wrap (a + d0 + gw * q) = a + d0 + gw * q := by
              generalize gw * q = pq at *
              rw [IntKind.wrap_i64]; omega
            have i3 : decide ((0 : Int) < gb) = true := by simp [hg1]
            have i4 : IntKind.i64.wrap (z + gb) = z + gb := by rw [IntKind.wrap_i64]; omega
            have i5 : IntKind.i64.wrap (z + gb - 1) = z + gb - 1 := by rw [IntKind.wrap_i64]; omega
            have i6 : (gb == 0) = false := by simp; omega
            have i7 : gb ≠ 0 := by omega
            have HTE := hide hte
            clear hte hp0 hq0 hq1
            go_wp2_with fail
            go_quiet (fail)
            go_wp2_with fail
            go_meet
            exact ⟨by rw [HTE.out], hide (R0.out.ext' (Ext.drewN _ _))⟩
        case rest =>
          obtain ⟨rfl, R1⟩ := hcut
          clear p4 p0 s1 cc' q0' q2' m1 i1 i2 HARR R0
          go_upto_region 20 with (fail)
          go_cut [] (fun wx => ∃ v1' v2' v3', Hid (RndR w wx (some ⟨bl, ol, none⟩) ln lc (some ⟨bs, os, none⟩) sn sc qA qn qc d0 s0 r0 f0 i0 k0 l0 t0 lo0 hi0 a0 x0 y0 z0 gw gb v1' v2' v3' v1' v2' v3' st ld { w := x1, loads := F.loads, ch := F.ch ++ [(rn : Int)], asd := F.asd ++ [a], arr := F.arr ++ [t], before := F.before }))
          case first =>
            clear HCM HNX
            have HVL : Hid (∀ i b, [v1.ownBlock, v2.ownBlock, v3.ownBlock, st.ownBlock, ld.ownBlock].getD i none = some b → b < wc.drew.heap.size) := hide (fun i b hb => (R1.out.lt i b hb).2)
            have HLN2 : Hid (F.ch.length ≤ 200 ∧ F.asd.length ≤ 200 ∧ F.arr.length ≤ 200) := hide (by have := HLN.out; omega)
            have R := hide (R1.out.ext' (Ext.drew wc))
            have hS0 : ApS (w.heap.size + 1 + 1 + 1 + 1) v1 v2 v3 wc.drew := ⟨R.out.crs.cell 0, R.out.crs.cell 1, R.out.crs.cell 2⟩
            refine region_z (S := ApS (w.heap.size + 1 + 1 + 1 + 1) v1 v2 v3) 18 (by kernel_rfl) ?_
            refine AnyZ.takeD (i := 0) (d := 95) (oi := _) (v := ?_) rfl rfl rfl (by kernel_rfl) (by kernel_rfl) (by kernel_rfl) (by kernel_rfl) (by kernel_rfl) (by kernel_rfl) (fun _ _ _ h => h) (Or.inl ⟨by rfl, ?_⟩) hS0 ?_
            rotate_left
            · intro W hW; first | (go_simp; done) | (go_simp; with_reducible rfl)
            simp only [Act.put, List.setIfInBounds_toArray, List.set_cons_zero, List.set_cons_succ]
            refine AnyZ.takeD (i := 1) (d := 96) (oi := _) (v := ?_) rfl rfl rfl (by kernel_rfl) (by kernel_rfl) (by kernel_rfl) (by kernel_rfl) (by kernel_rfl) (by kernel_rfl) (fun _ _ _ h => h) (Or.inl ⟨by rfl, ?_⟩) hS0 ?_
            rotate_left
            · intro W hW; first | (go_simp; done) | (go_simp; with_reducible rfl)
            simp only [Act.put, List.setIfInBounds_toArray, List.set_cons_zero, List.set_cons_succ]
            refine AnyZ.takeD (i := 2) (d := 97) (oi := _) (v := ?_) rfl rfl rfl (by kernel_rfl) (by kernel_rfl) (by kernel_rfl) (by kernel_rfl) (by kernel_rfl) (by kernel_rfl) (fun _ _ _ h => h) (Or.inl ⟨by rfl, ?_⟩) hS0 ?_
            rotate_left
            · intro W hW; obtain ⟨s1, s2, s3⟩ := hW; first | (go_simp; done) | (go_simp; with_reducible rfl)
            simp only [Act.put, List.setIfInBounds_toArray, List.set_cons_zero, List.set_cons_succ]
            refine AnyZ.takeD (i := 3) (d := 98) (oi := _) (v := ?_) rfl rfl rfl (by kernel_rfl) (by kernel_rfl) (by kernel_rfl) (by kernel_rfl) (by kernel_rfl) (by kernel_rfl) (fun _ _ _ h => h) (Or.inl ⟨by rfl, ?_⟩) hS0 ?_
            rotate_left
            · intro W hW; first | (go_simp; done) | (go_simp; with_reducible rfl)
            simp only [Act.put, List.setIfInBounds_toArray, List.set_cons_zero, List.set_cons_succ]
            refine AnyZ.takePD (i := 6) (d := 101) (oi := _) (v := ?_) rfl rfl (by kernel_rfl) (by kernel_rfl) (by kernel_rfl) (by kernel_rfl) (fun _ _ _ h => h) (Or.inl ⟨by rfl, ?_⟩) hS0 ?_
            rotate_left
            · intro W hW; first | (go_simp; done) | (go_simp; with_reducible rfl)
            simp only [Act.put, List.setIfInBounds_toArray, List.set_cons_zero, List.set_cons_succ]
            refine AnyZ.takePD (i := 7) (d := 102) (oi := _) (v := ?_) rfl rfl (by kernel_rfl) (by kernel_rfl) (by kernel_rfl) (by kernel_rfl) (fun _ _ _ h => h) (Or.inl ⟨by rfl, ?_⟩) hS0 ?_
            rotate_left
            · intro W hW; first | (go_simp; done) | (go_simp; with_reducible rfl)
            simp only [Act.put, List.setIfInBounds_toArray, List.set_cons_zero, List.set_cons_succ]
            refine AnyZ.takeD (i := 8) (d := 103) (oi := _) (v := ?_) rfl rfl rfl (by kernel_rfl) (by kernel_rfl) (by kernel_rfl) (by kernel_rfl) (by kernel_rfl) (by kernel_rfl) (fun _ _ _ h => h) (Or.inl ⟨by rfl, ?_⟩) hS0 ?_
            rotate_left
            · intro W hW; obtain ⟨s1, s2, s3⟩ := hW; first | (go_simp; done) | (go_simp; with_reducible rfl)
            simp only [Act.put, List.setIfInBounds_toArray, List.set_cons_zero, List.set_cons_succ]
            refine AnyZ.takePD (i := 9) (d := 104) (oi := _) (v := ?_) rfl rfl (by kernel_rfl) (by kernel_rfl) (by kernel_rfl) (by kernel_rfl) (fun _ _ _ h => h) (Or.inl ⟨by rfl, ?_⟩) hS0 ?_
            rotate_left
            · intro W hW; first | (go_simp; done) | (go_simp; with_reducible rfl)
            simp only [Act.put, List.setIfInBounds_toArray, List.set_cons_zero, List.set_cons_succ]
            refine AnyZ.takePD (i := 12) (d := 107) (oi := _) (v := ?_) rfl rfl (by kernel_rfl) (by kernel_rfl) (by kernel_rfl) (by kernel_rfl) (fun _ _ _ h => h) (Or.inl ⟨by rfl, ?_⟩) hS0 ?_
            rotate_left
            · intro W hW; first | (go_simp; done) | (go_simp; with_reducible rfl)
            simp only [Act.put, List.setIfInBounds_toArray, List.set_cons_zero, List.set_cons_succ]
            refine AnyZ.takePD (i := 13) (d := 108) (oi := _) (v := ?_) rfl rfl (by kernel_rfl) (by kernel_rfl) (by kernel_rfl) (by kernel_rfl) (fun _ _ _ h => h) (Or.inl ⟨by rfl, ?_⟩) hS0 ?_
            rotate_left
            · intro W hW; first | (go_simp; done) | (go_simp; with_reducible rfl)
            simp only [Act.put, List.setIfInBounds_toArray, List.set_cons_zero, List.set_cons_succ]
            refine AnyZ.takeD (i := 14) (d := 109) (oi := _) (v := ?_) rfl rfl rfl (by kernel_rfl) (by kernel_rfl) (by kernel_rfl) (by kernel_rfl) (by kernel_rfl) (by kernel_rfl) (fun _ _ _ h => h) (Or.inl ⟨by rfl, ?_⟩) hS0 ?_
            rotate_left
            · intro W hW; obtain ⟨s1, s2, s3⟩ := hW; first | (go_simp; done) | (go_simp; with_reducible rfl)
            simp only [Act.put, List.setIfInBounds_toArray, List.set_cons_zero, List.set_cons_succ]
            refine AnyZ.takePD (i := 15) (d := 110) (oi := _) (v := ?_) rfl rfl (by kernel_rfl) (by kernel_rfl) (by kernel_rfl) (by kernel_rfl) (fun _ _ _ h => h) (Or.inl ⟨by rfl, ?_⟩) hS0 ?_
            rotate_left
            · intro W hW; first | (go_simp; done) | (go_simp; with_reducible rfl)
            simp only [Act.put, List.setIfInBounds_toArray, List.set_cons_zero, List.set_cons_succ]
            refine gen_z fun W0 hw0 => ?_
            refine gen_act fun ac hac => ?_
            have HAC := hide hac
            clear hac
            refine AnyZ.three6 (n := 9) (fun s1 s2 s3 b W => ∃ B1 A1 B2 A2 B3 A3, b = (((((ac.put (some 99) B1).put (some 100) A1).put (some 105) B2).put (some 106) A2).put (some 111) B3).put (some 112) A3 ∧ ThrI w W wc.drew.heap.size (some ⟨bl, ol, none⟩) ln lc (some ⟨bs, os, none⟩) sn sc qA qn qc d0 s0 r0 f0 i0 k0 l0 t0 lo0 hi0 a0 x0 y0 z0 gw gb v1 v2 v3 st ld x1 F (rn : Int) a t s1 s2 s3 B1 A1 B2 A2 B3 A3) ?r1 ?r2 ?o4 ?o5 ?o10 ?o11 ?o16 ?o17 ?r5 ?r6
            case r1 => exact three_cases (by kernel_rfl) (by kernel_rfl) (by kernel_rfl) (by kernel_rfl) (by kernel_rfl) (by kernel_rfl) (by kernel_rfl) (by kernel_rfl) (by kernel_rfl) (by kernel_rfl) (by kernel_rfl) (by kernel_rfl) (by kernel_rfl) (by kernel_rfl) 
            case r2 => exact three_set20
            case o4 =>
              intro s2 s3 b W hInv
              obtain ⟨B1, A1, B2, A2, B3, A3, hb, hT⟩ := hInv
              have hac := HAC.out
              subst hac
              subst hb
              have HT := hide hT
              clear hT hw0 hS0 R R1
              · refine wpOp_step rfl (fun K hK => ?_)
                have HK := hide hK
                clear hK
                simp only [Act.put, List.setIfInBounds_toArray, List.set_cons_zero, List.set_cons_succ]
                go_simp
                refine HK.out _ _ ⟨HT.out.make1.cells, ?_⟩
                refine ⟨_, A1, B2, A2, B3, A3, ?_, HT.out.make1⟩
                simp only [Act.put, List.setIfInBounds_toArray, List.set_cons_zero, List.set_cons_succ]
            case o5 =>
              intro s2 s3 b W hInv
              obtain ⟨B1, A1, B2, A2, B3, A3, hb, hT⟩ := hInv
              obtain ⟨p, rfl, N9, O9, G9⟩ := hT.own1
              have hac := HAC.out
              subst hac
              subst hb
              have HT := hide hT
              clear hT hw0 hS0 R R1
              · simp only [Act.put, List.setIfInBounds_toArray, List.set_cons_zero, List.set_cons_succ]
                refine wpOp_step rfl (fun K hK => ?_)
                have HK := hide hK
                clear hK
                have g1 : F.ch.length + 1 ≤ maxLen := by have := HLN2.out; unfold maxLen; omega
                have g2 : (F.ch.length + 1) * 8 ≤ 140737488355328 := by have := HLN2.out; omega
                refine wanted_step rfl ?_
                simp only [List.getElem_toArray, List.getElem_cons_succ, List.getElem_cons_zero]
                have hs : ∀ a : Act, a.eval (Operand.tmp 97) = a.tmps.getD 97 undef := fun a => rfl
                have hx : ∀ a : Act, a.eval (Operand.tmp 99) = a.tmps.getD 99 undef := fun a => rfl
                refine app_int (B := (w.heap.size + 1 + 1 + 1 + 1 + 1)) (s := .tmp 97) (x := .tmp 99) (v := v1) (xs := F.ch) (p := p) (y := (rn : Int)) ?_ hiI hy0 hy1 hy2 ?_ ?_ O9 N9 g1 g2 G9 ?_
                · with_reducible rfl
                · rw [hs]; rfl
                · rw [hx]; rfl
                intro u W2 o7 g7 hob
                have hN := HT.out.take1 o7 g7 hob (fun b hb => HVL.out 0 _ hb)
                refine HK.out _ _ ⟨hN.cells, ?_⟩
                refine ⟨_, u, B2, A2, B3, A3, ?_, hN⟩
                simp only [Act.put, List.setIfInBounds_toArray, List.set_cons_zero, List.set_cons_succ]
            case o10 =>
              intro s1 s3 b W hInv
              obtain ⟨B1, A1, B2, A2, B3, A3, hb, hT⟩ := hInv
              have hac := HAC.out
              subst hac
              subst hb
              have HT := hide hT
              clear hT hw0 hS0 R R1
              · refine wpOp_step rfl (fun K hK => ?_)
                have HK := hide hK
                clear hK
                simp only [Act.put, List.setIfInBounds_toArray, List.set_cons_zero, List.set_cons_succ]
                go_simp
                refine HK.out _ _ ⟨HT.out.make2.cells, ?_⟩
                refine ⟨B1, A1, _, A2, B3, A3, ?_, HT.out.make2⟩
                simp only [Act.put, List.setIfInBounds_toArray, List.set_cons_zero, List.set_cons_succ]
            case o11 =>
              intro s3 b W hInv
              obtain ⟨B1, A1, B2, A2, B3, A3, hb, hT⟩ := hInv
              obtain ⟨p, rfl, N9, O9, G9⟩ := hT.own2
              have hac := HAC.out
              subst hac
              subst hb
              have HT := hide hT
              clear hT hw0 hS0 R R1
              · simp only [Act.put, List.setIfInBounds_toArray, List.set_cons_zero, List.set_cons_succ]
                refine wpOp_step rfl (fun K hK => ?_)
                have HK := hide hK
                clear hK
                have g1 : F.asd.length + 1 ≤ maxLen := by have := HLN2.out; unfold maxLen; omega
                have g2 : (F.asd.length + 1) * 8 ≤ 140737488355328 := by have := HLN2.out; omega
                refine wanted_step rfl ?_
                simp only [List.getElem_toArray, List.getElem_cons_succ, List.getElem_cons_zero]
                have hs : ∀ a : Act, a.eval (Operand.tmp 103) = a.tmps.getD 103 undef := fun a => rfl
                have hx : ∀ a : Act, a.eval (Operand.tmp 105) = a.tmps.getD 105 undef := fun a => rfl
                refine app_int (B := (w.heap.size + 1 + 1 + 1 + 1 + 1)) (s := .tmp 103) (x := .tmp 105) (v := v2) (xs := F.asd) (p := p) (y := a) ?_ hiI hy0 hy1 hy2 ?_ ?_ O9 N9 g1 g2 G9 ?_
                · with_reducible rfl
                · rw [hs]; rfl
                · rw [hx]; rfl
                intro u W2 o7 g7 hob
                have hN := HT.out.take2 o7 g7 hob (fun b hb => HVL.out 1 _ hb)
                refine HK.out _ _ ⟨hN.cells, ?_⟩
                refine ⟨B1, A1, _, u, B3, A3, ?_, hN⟩
                simp only [Act.put, List.setIfInBounds_toArray, List.set_cons_zero, List.set_cons_succ]
            case o16 =>
              intro s1 s2 b W hInv
              obtain ⟨B1, A1, B2, A2, B3, A3, hb, hT⟩ := hInv
              have hac := HAC.out
              subst hac
              subst hb
              have HT := hide hT
              clear hT hw0 hS0 R R1
              · refine wpOp_step rfl (fun K hK => ?_)
                have HK := hide hK
                clear hK
                simp only [Act.put, List.setIfInBounds_toArray, List.set_cons_zero, List.set_cons_succ]
                go_simp
                refine HK.out _ _ ⟨HT.out.make3.cells, ?_⟩
                refine ⟨B1, A1, B2, A2, _, A3, ?_, HT.out.make3⟩
                simp only [Act.put, List.setIfInBounds_toArray, List.set_cons_zero, List.set_cons_succ]
            case o17 =>
              intro  b W hInv
              obtain ⟨B1, A1, B2, A2, B3, A3, hb, hT⟩ := hInv
              obtain ⟨p, rfl, N9, O9, G9⟩ := hT.own3
              have hac := HAC.out
              subst hac
              subst hb
              have HT := hide hT
              clear hT hw0 hS0 R R1
              · simp only [Act.put, List.setIfInBounds_toArray, List.set_cons_zero, List.set_cons_succ]
                refine wpOp_step rfl (fun K hK => ?_)
                have HK := hide hK
                clear hK
                have g1 : F.arr.length + 1 ≤ maxLen := by have := HLN2.out; unfold maxLen; omega
                have g2 : (F.arr.length + 1) * 8 ≤ 140737488355328 := by have := HLN2.out; omega
                refine wanted_step rfl ?_
                simp only [List.getElem_toArray, List.getElem_cons_succ, List.getElem_cons_zero]
                have hs : ∀ a : Act, a.eval (Operand.tmp 109) = a.tmps.getD 109 undef := fun a => rfl
                have hx : ∀ a : Act, a.eval (Operand.tmp 111) = a.tmps.getD 111 undef := fun a => rfl
                refine app_int (B := (w.heap.size + 1 + 1 + 1 + 1 + 1)) (s := .tmp 109) (x := .tmp 111) (v := v3) (xs := F.arr) (p := p) (y := t) ?_ hiI hy0 hy1 hy2 ?_ ?_ O9 N9 g1 g2 G9 ?_
                · with_reducible rfl
                · rw [hs]; rfl
                · rw [hx]; rfl
                intro u W2 o7 g7 hob
                have hN := HT.out.take3 o7 g7 hob (fun b hb => HVL.out 2 _ hb)
                refine HK.out _ _ ⟨hN.cells, ?_⟩
                refine ⟨B1, A1, B2, A2, _, u, ?_, hN⟩
                simp only [Act.put, List.setIfInBounds_toArray, List.set_cons_zero, List.set_cons_succ]
            case r5 =>
              intro b W hInv
              obtain ⟨B1, A1, B2, A2, B3, A3, hb, hT⟩ := hInv
              obtain ⟨A0, c0, A1', c1, A2', c2, rfl, rfl, rfl, hR2⟩ := hT.all
              have hac := HAC.out
              subst hac
              subst hb
              have R0 := hide hR2
              clear hT hR2 hw0 hS0 R R1
              simp only [Act.put, List.setIfInBounds_toArray, List.set_cons_zero, List.set_cons_succ]
              have e0 := R0.out.crs.cell 0
              have fz0 := R0.out.crs.frozen 0
              have e1 := R0.out.crs.cell 1
              have fz1 := R0.out.crs.frozen 1
              have e2 := R0.out.crs.cell 2
              have fz2 := R0.out.crs.frozen 2
              refine AnyZ.step (i := 18) rfl (by kernel_rfl) (fun K hK => ?_)
              go_simp
              refine hK.out _ _ (fun h => ?_) ?_
              · exact absurd (h.symm.trans (show _ = true by kernel_rfl)) (by simp)
              clear hK K
              try simp only [Act.put, List.setIfInBounds_toArray, List.set_cons_zero, List.set_cons_succ]
              refine AnyZ.step (i := 19) rfl (by kernel_rfl) (fun K hK => ?_)
              go_simp
              refine hK.out _ _ (fun h => ?_) ?_
              · exact absurd (h.symm.trans (show _ = true by kernel_rfl)) (by simp)
              clear hK K
              try simp only [Act.put, List.setIfInBounds_toArray, List.set_cons_zero, List.set_cons_succ]
              refine AnyZ.step (i := 20) rfl (by kernel_rfl) (fun K hK => ?_)
              go_simp
              refine hK.out _ _ (fun h => ?_) ?_
              · exact absurd (h.symm.trans (show _ = true by kernel_rfl)) (by simp)
              clear hK K
              try simp only [Act.put, List.setIfInBounds_toArray, List.set_cons_zero, List.set_cons_succ]
              refine gen_z fun WA hwa => ?_
              have BA := hide (show Blk WA (w.heap.size + 1 + 1 + 1 + 1) 102 #[(.slice A0 (F.ch.length + 1) c0), v2, v3, .int .i64 x1.beg, st, .int .i64 0, .bool x1.begun, .bool x1.plays, .int .i64 x1.at_, .int .i64 x1.buf, .int .i64 x1.stalled] from by rw [hwa]; exact R0.out.crs.set_ 0 _)
              have HWA := hide hwa
              clear hwa e0 e1 e2 fz0 fz1 fz2
              have e1 := BA.out.cell 1
              have fz1 := BA.out.frozen 1
              refine AnyZ.step (i := 21) rfl (by kernel_rfl) (fun K hK => ?_)
              go_simp
              refine hK.out _ _ (fun h => ?_) ?_
              · exact absurd (h.symm.trans (show _ = true by kernel_rfl)) (by simp)
              clear hK K
              try simp only [Act.put, List.setIfInBounds_toArray, List.set_cons_zero, List.set_cons_succ]
              refine AnyZ.step (i := 22) rfl (by kernel_rfl) (fun K hK => ?_)
              go_simp
              refine hK.out _ _ (fun h => ?_) ?_
              · exact absurd (h.symm.trans (show _ = true by kernel_rfl)) (by simp)
              clear hK K
              try simp only [Act.put, List.setIfInBounds_toArray, List.set_cons_zero, List.set_cons_succ]
              refine AnyZ.step (i := 23) rfl (by kernel_rfl) (fun K hK => ?_)
              go_simp
              refine hK.out _ _ (fun h => ?_) ?_
              · exact absurd (h.symm.trans (show _ = true by kernel_rfl)) (by simp)
              clear hK K
              try simp only [Act.put, List.setIfInBounds_toArray, List.set_cons_zero, List.set_cons_succ]
              refine gen_z fun WB hwb => ?_
              have BB := hide (show Blk WB (w.heap.size + 1 + 1 + 1 + 1) 102 #[(.slice A0 (F.ch.length + 1) c0), (.slice A1' (F.asd.length + 1) c1), v3, .int .i64 x1.beg, st, .int .i64 0, .bool x1.begun, .bool x1.plays, .int .i64 x1.at_, .int .i64 x1.buf, .int .i64 x1.stalled] from by rw [hwb]; exact BA.out.set_ 1 _)
              have HWB := hide hwb
              clear hwb e1 fz1
              have e2 := BB.out.cell 2
              have fz2 := BB.out.frozen 2
              refine AnyZ.step (i := 24) rfl (by kernel_rfl) (fun K hK => ?_)
              go_simp
              refine hK.out _ _ (fun h => ?_) ?_
              · exact absurd (h.symm.trans (show _ = true by kernel_rfl)) (by simp)
              clear hK K
              try simp only [Act.put, List.setIfInBounds_toArray, List.set_cons_zero, List.set_cons_succ]
              refine AnyZ.step (i := 25) rfl (by kernel_rfl) (fun K hK => ?_)
              go_simp
              refine hK.out _ _ (fun h => ?_) ?_
              · exact absurd (h.symm.trans (show _ = true by kernel_rfl)) (by simp)
              clear hK K
              try simp only [Act.put, List.setIfInBounds_toArray, List.set_cons_zero, List.set_cons_succ]
              refine AnyZ.step (i := 26) rfl (by kernel_rfl) (fun K hK => ?_)
              go_simp
              refine hK.out _ _ (fun h => ?_) ?_
              · exact absurd (h.symm.trans (show _ = true by kernel_rfl)) (by simp)
              clear hK K
              try simp only [Act.put, List.setIfInBounds_toArray, List.set_cons_zero, List.set_cons_succ]
              refine gen_z fun WC hwc => ?_
              have R9 := hide (show RndR w WC (some ⟨bl, ol, none⟩) ln lc (some ⟨bs, os, none⟩) sn sc qA qn qc d0 s0 r0 f0 i0 k0 l0 t0 lo0 hi0 a0 x0 y0 z0 gw gb (.slice A0 (F.ch.length + 1) c0) (.slice A1' (F.asd.length + 1) c1) (.slice A2' (F.arr.length + 1) c2) (.slice A0 (F.ch.length + 1) c0) (.slice A1' (F.asd.length + 1) c1) (.slice A2' (F.arr.length + 1) c2) st ld { w := x1, loads := F.loads, ch := F.ch ++ [(rn : Int)], asd := F.asd ++ [a], arr := F.arr ++ [t], before := F.before } from by rw [hwc, HWB.out, HWA.out]; exact R0.out.sets)
              clear hwc e2 fz2 HWA HWB BA BB
              refine AnyZ.done (by kernel_rfl) ?_ _
              try go_wp2_with fail
              go_meet
              exact ⟨_, _, _, R9⟩
            case r6 =>
              refine ⟨ac.tmps.getD 99 undef, ac.tmps.getD 100 undef, ac.tmps.getD 105 undef, ac.tmps.getD 106 undef, ac.tmps.getD 111 undef, ac.tmps.getD 112 undef, by simp only [put_same], ?_⟩
              rw [hw0]
              exact ⟨R.out, Nat.le_refl _, fun e => absurd e (by decide), fun e => absurd e (by decide), fun e => absurd e (by decide), fun e => absurd e (by decide), fun e => absurd e (by decide), fun e => absurd e (by decide)⟩
          case rest =>
            obtain ⟨u1, u2, u3, R2⟩ := hcut
            clear R1
            have hwt : IntKind.i64.wrap (t - a) = t - a := by rw [IntKind.wrap_i64]; omega
            have N9 := hide (At.pair1 wc z (t - a) 97)
            have R2a := hide (R2.out.ext' (Ext.alloc wc (.cells #[.int .i64 z, .int .i64 (t - a)] 97)))
            go_wp2_with (at_builtin; go_loud (refine wpList_append_at _ rfl (.tmp 119) (.tmp 125) 89 rfl (w.heap.size + 1 + 1 + 1 + 1 + 1) 97 iH _ 16 Try.underlying89 hiH hu0 hu1 hu2 rfl (by omega) len_e2 one_e2 ld F.loads rfl R2a.out.o5 (some ⟨wc.heap.size, 0, none⟩) 1 1 [(z, t - a)] rfl N9.out ?b1 ?b2 ?b3 ?_))
            case b1 => have := HLN.out; unfold maxLen; simp; omega
            case b2 => have := HLN.out; simp; omega
            case b3 => exact Nat.succ_le_of_lt R2a.out.crs.lt
            intro ld' w9 o9 g9 _ hob
            have R3 := hide (R2a.out.app4 o9 g9 (by rw [World.size_alloc]; exact hob))
            clear o9 g9 hob R2 R2a N9 hwt
            have q14 := R3.out.shw.cell 0
            have hbq : ((k : Int) == (ln : Int) - 1) = decide (k + 1 = ln) := by
              by_cases hq : k + 1 = ln
              · simp [hq]; omega
              · simp [hq]; omega
            have hwl : IntKind.i64.wrap ((ln : Int) - 1) = (ln : Int) - 1 := by rw [IntKind.wrap_i64]; omega
            have q0 := R3.out.plr.cell 0
            have q1 := R3.out.plr.cell 1
            have q2 := R3.out.plr.cell 2
            have q3 := R3.out.plr.cell 3
            have q4 := R3.out.plr.cell 4
            have q5 := R3.out.plr.cell 5
            have q6 := R3.out.plr.cell 6
            have q7 := R3.out.plr.cell 7
            have q8 := R3.out.plr.cell 8
            have q9 := R3.out.plr.cell 9
            have q10 := R3.out.plr.cell 10
            have q11 := R3.out.plr.cell 11
            have q12 := R3.out.plr.cell 12
            have q13 := R3.out.plr.cell 13
            go_wp2_with fail
            with_reducible refine (HCM.out _ _ _ _ _ _ _ _ _ _ rfl R3.out).mono ?_
            intro e w10 hcm
            obtain ⟨st', rfl, r4⟩ := R3.out.come hcm
            have R4 := hide r4
            clear hcm r4 R3 q14 q0 q1 q2 q3 q4 q5 q6 q7 q8 q9 q10 q11 q12 q13 hbq hwl
            go_wp2_with fail
            exact ⟨⟨k + 1, _, _, _, st', _, by omega, by go_num, rfl, hide (by rw [HF'.out]; exact HNX.out _ _ _ _ _ _ _ R4.out rfl rfl rfl rfl rfl)⟩, by simp [intOf]; omega⟩
    have hkn : k = ln := by omega
    subst hkn
    have HFL1 := HFL.out k
    obtain ⟨hok, hat, hsum, hbf⟩ := HR.out.all k (by omega)
    have hD0 := HR.out.d0
    have hM0 := HR.out.m0
    have hkD : (k : Int) * D ≤ 200 * D := Int.mul_le_mul_of_nonneg_right (by omega) hD0
    have hb0 := hok.1
    clear HA HFL HR HROW HSZ hok
    have hLk : L.length = k := HLL
    generalize hF : folF f0 s0 r0 L S (gvF C) av k = F at *
    have HFk := hide hF
    clear hF
    obtain ⟨hl1, hl2, hl3, hl4, hl5⟩ := HFL1
    have HLN := hide (And.intro hl1 (And.intro hl2 (And.intro hl3 hl5)))
    clear hl1 hl2 hl3 hl4 hl5
    have B0 := hide HF.out.crs
    have c8 := B0.out.cell 8
    have c9 := B0.out.cell 9
    have c5 := B0.out.cell 5
    have f5 := B0.out.frozen 5
    have vv1 : IntKind.i64.wrap (F.w.at_ + F.w.buf) = F.w.at_ + F.w.buf := by rw [IntKind.wrap_i64]; omega
    have jj0 : ¬ (k : Int) < (k : Int) := by omega
    go_upto_region 25 with (fail)
    refine gen_wpC fun W1 h1 => ?_
    have T1 : Tw wr W1 (w.heap.size + 1 + 1 + 1 + 1) none := by rw [h1]; (repeat' (first | (with_reducible exact Tw.refl _ _ _) | (with_reducible refine Tw.drew ?_) | (with_reducible refine Tw.drewN ?_ _) | (with_reducible refine Tw.trans ?_ (Tw.set_ _ _ _ _ _))))
    have B1 : Blk W1 (w.heap.size + 1 + 1 + 1 + 1) 102 #[v1, v2, v3, .int .i64 F.w.beg, st, .int .i64 (F.w.at_ + F.w.buf), .bool F.w.begun, .bool F.w.plays, .int .i64 F.w.at_, .int .i64 F.w.buf, .int .i64 F.w.stalled] := by rw [h1]; exact B0.out.set_ 5 _
    have S1 := T1.blk HF.out.ses (by omega) (by simp)
    have X1 := Below.trans HF.out.ext (T1.below HF.out.ext.size (by omega) (fun b hb => by cases hb))
    have o1 := HF.out.o1.tw T1 (fun e => by have := (HF.out.lt 0 _ e).1; omega) (fun _ _ h => by cases h)
    have o2 := HF.out.o2.tw T1 (fun e => by have := (HF.out.lt 1 _ e).1; omega) (fun _ _ h => by cases h)
    have o3 := HF.out.o3.tw T1 (fun e => by have := (HF.out.lt 2 _ e).1; omega) (fun _ _ h => by cases h)
    have o4 := HF.out.o4.tw T1 (fun e => by have := (HF.out.lt 3 _ e).1; omega) (fun _ _ h => by cases h)
    obtain ⟨A0, c0, rfl, a0⟩ := o1.at_ len_e64
    obtain ⟨A1, c1, rfl, a1⟩ := o2.at_ len_e64
    obtain ⟨A2, c2, rfl, a2⟩ := o3.at_ len_e64
    obtain ⟨A3, c3, rfl, a3⟩ := o4.at_ len_e2
    have HA := hide (And.intro o1 (And.intro o2 (And.intro o3 o4)))
    clear o1 o2 o3 o4 h1 c8 c9 c5 f5 vv1
    have cq0 := B1.cell 0
    have cq1 := B1.cell 1
    have cq2 := B1.cell 2
    have cq3 := B1.cell 3
    have cq4 := B1.cell 4
    have cq5 := B1.cell 5
    have ss0 := S1.cell 0
    have tt0 := S1.frozen 0
    have ss1 := S1.cell 1
    have tt1 := S1.frozen 1
    have ss2 := S1.cell 2
    have tt2 := S1.frozen 2
    have ss3 := S1.cell 3
    have tt3 := S1.frozen 3
    have ss4 := S1.cell 4
    have tt4 := S1.frozen 4
    have ss5 := S1.cell 5
    have tt5 := S1.frozen 5
    have HS1 := hide S1
    have HX1 := hide X1
    clear S1 X1 a0 a1 a2 a3 B1 T1 HF B0
    go_wp2_with fail
    refine gen_bod fun W9 h9 => ?_
    have S9 : Blk W9 (w.heap.size + 1 + 1 + 1) 33 #[.slice A0 F.ch.length c0, .slice A1 F.asd.length c1, .slice A2 F.arr.length c2, .int .i64 F.w.beg, .slice A3 F.w.stalls.length c3, .int .i64 (F.w.at_ + F.w.buf)] := by rw [h9]; exact (((((HS1.out.set_ 0 _).set_ 1 _).set_ 2 _).set_ 3 _).set_ 4 _).set_ 5 _
    have T9 : Tw W1 W9 (w.heap.size + 1 + 1 + 1) none := by rw [h9]; (repeat' (first | (with_reducible exact Tw.refl _ _ _) | (with_reducible refine Tw.trans ?_ (Tw.set_ _ _ _ _ _))))
    clear h9
    have k0' := S9.cell 0
    have k1' := S9.cell 1
    have k2' := S9.cell 2
    have k3' := S9.cell 3
    have k4' := S9.cell 4
    have k5' := S9.cell 5
    have X9 := Below.trans HX1.out (T9.below HX1.out.size (by omega) (fun b hb => by cases hb))
    first | rw [show L.length = k from hLk, HFk.out] | rw [HFk.out]
    refine bodyPost_ret (v := .agg #[.slice A0 F.ch.length c0, .slice A1 F.asd.length c1, .slice A2 F.arr.length c2, .int .i64 F.w.beg, .slice A3 F.w.stalls.length c3, .int .i64 (F.w.at_ + F.w.buf)]) (by simp [results, Try.results46, go_sem, k0', k1', k2', k3', k4', k5']) rfl ⟨_, rfl, ⟨A0, c0, A1, c1, A2, c2, A3, c3, rfl, ?_, ?_, ?_, ?_, ?_⟩, ⟨HLN.out.1, HLN.out.2.1, HLN.out.2.2.1, HLN.out.2.2.2⟩, X9⟩
    · exact (HA.out.1.tw T9 (fun e => by have := (HA.out.1.lt _ e).1; omega) (fun _ _ h => by cases h)).atS len_e64
    · exact (HA.out.2.1.tw T9 (fun e => by have := (HA.out.2.1.lt _ e).1; omega) (fun _ _ h => by cases h)).atS len_e64
    · exact (HA.out.2.2.1.tw T9 (fun e => by have := (HA.out.2.2.1.lt _ e).1; omega) (fun _ _ h => by cases h)).atS len_e64
    · exact (HA.out.2.2.2.tw T9 (fun e => by have := (HA.out.2.2.2.lt _ e).1; omega) (fun _ _ h => by cases h)).atS len_e2
    · rintro a (rfl | rfl | rfl | rfl)
      · have := (HA.out.1.lt _ rfl).1; omega
      · have := (HA.out.2.1.lt _ rfl).1; omega
      · have := (HA.out.2.2.1.lt _ rfl).1; omega
      · have := (HA.out.2.2.2.lt _ rfl).1; omega
end
end Go.Proofs.Ytjbgkoeojfmkkaa
