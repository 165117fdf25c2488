/- Several texts in one: Walks: bytes.Equal, sameBoxes of one tree told twice. Conditions as stated; Walks of the law's helpers: edits are equal; films that read alike; bytes of tracks that read alike. Conditions as stated; Walks of the law's helper: rows of bytes that read alike. Conditions as stated; Reading numbers out of bytes, in plain words. Plain; Tables in plain words: what is wrong with them. Plain; Reading lists of numbers out of bytes, in plain words. Plain; Numbers as bytes, the greatest first. Plain. -/
import Derived.Test.YtlonhkjplijlcaaMrg04
import Derived.Lib.Bytes
import Derived.Deep.DeepCutAuto
import Derived.Test.YtlonhkjplijlcaaMrg02
import Derived.Test.YtlonhkjplijlcaaMrg01
import Derived.Test.YtlonhkjplijlcaaMrg00
namespace Go.Proofs.Ytlonhkjplijlcaa
open Go.RowKit
/-- The string of bytes. -/
def strB (l : List UInt8) : ByteArray := ⟨l.toArray⟩
theorem convert_bytes {w : World} {A : Option Addr} {n c : Nat} {l : List UInt8} (h : At w 1 e8 A n c l) :
    (convert 26 9 (.slice A n c)).run Try.prog w = .ok (.string (strB l)) w := by
  rcases Nat.eq_zero_or_pos n with h0 | h0
  · subst h0
    obtain rfl : l = [] := List.eq_nil_of_length_eq_zero h.len
    rw [run_convert_bytes_string w _ _ 5 A 0 c Try.underlying26 Try.underlying5 Try.underlying9]
    cases A <;> simp [Conv.bytesToString, loadCells]
    all_goals rfl
  · exact conv_bytes h h0
theorem bytesEq_any {A1 A2 : Option Addr} {n1 c1 n2 c2 : Nat} {l m : List UInt8} {w : World} (h1 : At w 1 e8 A1 n1 c1 l) (h2 : At w 1 e8 A2 n2 c2 m) :
    Calls Try.prog 8 #[.slice A1 n1 c1, .slice A2 n2 c2] w fun e w' => e = .returned (.bool (l == m)) ∧ w = w' := by
  have k1 := convert_bytes h1
  have k2 := convert_bytes h2
  generalize hs : strB l = s at k1
  generalize ht : strB m = t at k2
  have H1 := hide hs
  have H2 := hide ht
  clear h1 h2 hs ht
  go_enter Try.func8, Try.ntmps8
  go_wp2
  go_ret
  refine ⟨ret_bool ?_, rfl⟩
  rw [← H1.out, ← H2.out]
  simp [strB, ByteArray.toList_eq]
theorem BxsAt.parts {w : World} {G : Nat → Prop} {A : Option Addr} {n c : Nat} {l : List BoxT} (h : BxsAt w G A n c l) : ∃ hs : List BoxH, At w 4 eBx A n c hs ∧ hs.length = l.length ∧ (∀ (i : Nat) (y : BoxH) (x : BoxT), hs[i]? = some y → l[i]? = some x → BxHd w G y x) ∧
    (∀ (i : Nat) (y : BoxH) (x : BoxT), hs[i]? = some y → l[i]? = some x → BxsAt w G y.kA y.kn y.kc x.kids) := by
  cases h with
  | mk hs l3 a1 a2 a3 a4 a5 => exact ⟨hs, a1, a3, a4, a5⟩
end Go.Proofs.Ytlonhkjplijlcaa
namespace Go.Proofs.Ytlonhkjplijlcaa
open Go.RowKit
set_option maxHeartbeats 2000000 in
theorem edEq_true {A1 A2 : Option Addr} {n1 c1 n2 c2 : Nat} {l : List (Int × Int)} {w : World} (h1 : At w 2 e2 A1 n1 c1 l) (h2 : At w 2 e2 A2 n2 c2 l) :
    Calls Try.prog 38 #[.slice A1 n1 c1, .slice A2 n2 c2] w fun e w' => e = .returned (.bool true) ∧ Ext w w' := by
  obtain rfl : n1 = n2 := h1.len.symm.trans h2.len
  have hb := h1.bound
  have H1 := hide h1; have H2 := hide h2
  clear h1 h2
  go_enter Try.func38, Try.ntmps38
  go_wp2_with fail
  go_loopw [13] (fun ri wr => ∃ k : Nat, k ≤ n1 ∧ ri = .int .i64 k ∧ Hid (Ext w wr)) (fun i _ => n1 - (intOf i).toNat)
  case atStart => exact ⟨0, by omega, rfl, hide (Ext.refl _)⟩
  case round =>
    obtain ⟨k, hk, rfl, HX⟩ := hrel
    by_cases hlt : k < n1
    · obtain ⟨b, off, rfl, _⟩ := H1.out.addr (by omega)
      obtain ⟨b2, off2, rfl, _⟩ := H2.out.addr (by omega)
      obtain ⟨a0, a1⟩ := (H1.out.ext HX.out).pair hlt
      obtain ⟨d0, d1⟩ := (H2.out.ext HX.out).pair hlt
      generalize (l.getD k (0, 0)).1 = y0 at *
      generalize (l.getD k (0, 0)).2 = y1 at *
      have i1 : (k : Int) < (n1 : Int) := by omega
      have i0 : (0 : Int) ≤ (k : Int) := by omega
      go_wp2_with fail
      go_quiet (fail)
      go_wp2
      go_roundw
      case rel => exact ⟨k + 1, by omega, by go_num, below_drewN HX.out _⟩
      case measure => simp [intOf]; omega
    · have hkn : k = n1 := by omega
      clear hkn
      go_wp2
      go_ret
      exact ⟨rfl, HX.out⟩
theorem gen_th {K : Act → World → Prop} {Q : Exit → Act → World → Prop} {x : Exit} {a : Act} {w : World} (h : ∀ W, W = w → Exit.then K Q x a W) : Exit.then K Q x a w := h w rfl
set_option linter.unusedVariables false in
set_option linter.unusedSimpArgs false in
set_option maxRecDepth 100000 in
set_option maxHeartbeats 8000000 in
theorem sameFilm_any {sc : Int} {A : Option Addr} {n c : Nat} {hs : List TrkH} {B : Option Addr} {m d : Nat} {hs2 : List TrkH} {T : List TrkT} {w : World} (h1 : TksAt w A n c hs T) (h2 : TksAt w B m d hs2 T) :
    Calls Try.prog 12 #[.agg #[.int .i64 sc, .slice A n c], .agg #[.int .i64 sc, .slice B m d]] w fun e w' => e = .returned (.bool true) ∧ Ext w w' := by
  obtain rfl : n = m := h1.len.symm.trans h2.len
  have hb := h1.at_.bound
  have H1 := hide h1
  have H2 := hide h2
  have E0 := hide (Ext.trans (Ext.alloc w (.cells #[.int .i64 sc, .slice A n c] 24)) (Ext.alloc _ (.cells #[.int .i64 sc, .slice B n d] 24)))
  have X0 := hide ((Blk.new w 24 #[.int .i64 sc, .slice A n c]).alloc (.cells #[.int .i64 sc, .slice B n d] 24))
  have Y0 := hide (Blk.new (w.alloc (.cells #[.int .i64 sc, .slice A n c] 24)) 24 #[.int .i64 sc, .slice B n d])
  clear h1 h2
  go_enter Try.func12, Try.ntmps12
  go_upto_region 1 with (fail)
  refine gen_wpC fun w0 h0 => ?_
  rw [← h0] at E0 X0 Y0
  rw [World.size_alloc] at Y0
  obtain ⟨f1, hf1⟩ : ∃ f1, f1 = w.heap.size := ⟨_, rfl⟩
  obtain ⟨f2, hf2⟩ : ∃ f2, f2 = w.heap.size + 1 := ⟨_, rfl⟩
  rw [← hf2] at Y0
  rw [← hf1] at X0
  first | rw [← hf2, ← hf1] | (simp only [World.size_alloc]; rw [← hf2, ← hf1])
  clear h0 hf1 hf2
  have x0 : w0.cell? ⟨f1, 0, none⟩ = some (.int .i64 sc) := X0.out.cell 0
  have x1 : w0.cell? ⟨f1, 1, none⟩ = some (.slice A n c) := X0.out.cell 1
  have y0 : w0.cell? ⟨f2, 0, none⟩ = some (.int .i64 sc) := Y0.out.cell 0
  have y1 : w0.cell? ⟨f2, 1, none⟩ = some (.slice B n d) := Y0.out.cell 1
  go_wp2_with fail
  clear x0 x1 y0 y1
  go_loopw [5] (fun ri wr => ∃ k : Nat, k ≤ n ∧ ri = .int .i64 k ∧ Hid (Ext w0 wr)) (fun i _ => n - (intOf i).toNat)
  case atStart => exact ⟨0, by omega, rfl, hide (Ext.refl _)⟩
  case round =>
    obtain ⟨k, hk, rfl, HX⟩ := hrel
    have x1 : wr.cell? ⟨f1, 1, none⟩ = some (.slice A n c) := (X0.out.ext HX.out).cell 1
    have y1 : wr.cell? ⟨f2, 1, none⟩ = some (.slice B n d) := (Y0.out.ext HX.out).cell 1
    by_cases hlt : k < n
    · have hat := H1.out.at_.ext (Ext.trans E0.out HX.out)
      have hbt := H2.out.at_.ext (Ext.trans E0.out HX.out)
      have ok1 := H1.out.ok k hlt
      have ok2 := H2.out.ok k hlt
      obtain ⟨b1, o1, rfl, _⟩ := hat.addr (by omega)
      obtain ⟨b2, o2, rfl, _⟩ := hbt.addr (by omega)
      obtain ⟨z1, hz1⟩ : ∃ z, hs.getD k default = z := ⟨_, rfl⟩
      obtain ⟨z2, hz2⟩ : ∃ z, hs2.getD k default = z := ⟨_, rfl⟩
      rw [hz1] at ok1
      rw [hz2] at ok2
      have a0 : wr.cell? ⟨b1, o1 + k * 4, none⟩ = some (.string ⟨z1.name.toArray⟩) := hat.cellK hlt default 0 _ (by rw [hz1]; rfl)
      have a1 : wr.cell? ⟨b1, o1 + k * 4 + 1, none⟩ = some (.int .i64 z1.scale) := hat.cellK hlt default 1 _ (by rw [hz1]; rfl)
      have a2 : wr.cell? ⟨b1, o1 + k * 4 + 2, none⟩ = some (.slice z1.sA z1.sn z1.sc) := hat.cellK hlt default 2 _ (by rw [hz1]; rfl)
      have a3 : wr.cell? ⟨b1, o1 + k * 4 + 3, none⟩ = some (.slice z1.eA z1.en z1.ec) := hat.cellK hlt default 3 _ (by rw [hz1]; rfl)
      have d0 : wr.cell? ⟨b2, o2 + k * 4, none⟩ = some (.string ⟨z2.name.toArray⟩) := hbt.cellK hlt default 0 _ (by rw [hz2]; rfl)
      have d1 : wr.cell? ⟨b2, o2 + k * 4 + 1, none⟩ = some (.int .i64 z2.scale) := hbt.cellK hlt default 1 _ (by rw [hz2]; rfl)
      have d2 : wr.cell? ⟨b2, o2 + k * 4 + 2, none⟩ = some (.slice z2.sA z2.sn z2.sc) := hbt.cellK hlt default 2 _ (by rw [hz2]; rfl)
      have d3 : wr.cell? ⟨b2, o2 + k * 4 + 3, none⟩ = some (.slice z2.eA z2.en z2.ec) := hbt.cellK hlt default 3 _ (by rw [hz2]; rfl)
      rw [ok1.1] at a0
      rw [ok1.2.1] at a1
      rw [ok2.1] at d0
      rw [ok2.2.1] at d1
      have HSQ := hide (fun (W : World) (hW : Ext w W) => smpEq_true (ok1.2.2.1.ext hW) (ok2.2.2.1.ext hW))
      have HEQ := hide (fun (W : World) (hW : Ext w W) => edEq_true (ok1.2.2.2.ext hW) (ok2.2.2.2.ext hW))
      generalize (T.getD k default).name = nm at *
      generalize (T.getD k default).scale = s at *
      generalize z1.sA = sA at *
      generalize z1.sn = sn at *
      generalize z1.sc = sc1 at *
      generalize z1.eA = eA at *
      generalize z1.en = en at *
      generalize z1.ec = ec at *
      generalize z2.sA = tA at *
      generalize z2.sn = tn at *
      generalize z2.sc = tc at *
      generalize z2.eA = gA at *
      generalize z2.en = gn at *
      generalize z2.ec = gc at *
      have i1 : (k : Int) < (n : Int) := by omega
      have i0 : (0 : Int) ≤ (k : Int) := by omega
      have i8 : IntKind.i64.wrap ((k : Int) + 1) = (k : Int) + 1 := by rw [IntKind.wrap_i64]; omega
      clear hat hbt ok1 ok2 hz1 hz2
      have x1n := World.new_ne wr _ x1
      have y1n := World.new_ne wr _ y1
      have a0n := World.new_ne wr _ a0
      have a1n := World.new_ne wr _ a1
      have a2n := World.new_ne wr _ a2
      have a3n := World.new_ne wr _ a3
      have d0n := World.new_ne wr _ d0
      have d1n := World.new_ne wr _ d1
      have d2n := World.new_ne wr _ d2
      have d3n := World.new_ne wr _ d3
      go_upto_region 6 with (fail)
      go_region_held3 (fun W => W.cell? ⟨f1, 1, none⟩ = some (.slice (some ⟨b1, o1, none⟩) n c) ∧ W.cell? ⟨f2, 1, none⟩ = some (.slice (some ⟨b2, o2, none⟩) n d) ∧ W.cell? ⟨b1, o1 + k * 4, none⟩ = some (.string ⟨nm.toArray⟩) ∧ W.cell? ⟨b1, o1 + k * 4 + 1, none⟩ = some (.int .i64 s) ∧ W.cell? ⟨b1, o1 + k * 4 + 2, none⟩ = some (.slice sA sn sc1) ∧ W.cell? ⟨b1, o1 + k * 4 + 3, none⟩ = some (.slice eA en ec) ∧ W.cell? ⟨b2, o2 + k * 4, none⟩ = some (.string ⟨nm.toArray⟩) ∧ W.cell? ⟨b2, o2 + k * 4 + 1, none⟩ = some (.int .i64 s) ∧ W.cell? ⟨b2, o2 + k * 4 + 2, none⟩ = some (.slice tA tn tc) ∧ W.cell? ⟨b2, o2 + k * 4 + 3, none⟩ = some (.slice gA gn gc)) (go_keep) (fail)
      · have E2 := hide (Ext.trans (Ext.trans (Ext.alloc wr (.cells #[.string ⟨nm.toArray⟩, .int .i64 s, .slice sA sn sc1, .slice eA en ec] 53)) (Ext.alloc _ (.cells #[.string ⟨nm.toArray⟩, .int .i64 s, .slice tA tn tc, .slice gA gn gc] 53))) (Ext.drew _))
        have XP := hide (((Blk.new wr 53 #[.string ⟨nm.toArray⟩, .int .i64 s, .slice sA sn sc1, .slice eA en ec]).alloc (.cells #[.string ⟨nm.toArray⟩, .int .i64 s, .slice tA tn tc, .slice gA gn gc] 53)).ext (Ext.drew _))
        have YQ := hide ((Blk.new (wr.alloc (.cells #[.string ⟨nm.toArray⟩, .int .i64 s, .slice sA sn sc1, .slice eA en ec] 53)) 53 #[.string ⟨nm.toArray⟩, .int .i64 s, .slice tA tn tc, .slice gA gn gc]).ext (Ext.drew _))
        refine gen_th fun w2 h2 => ?_
        rw [← h2] at E2 XP YQ
        rw [World.size_alloc] at YQ
        clear h2 x1n y1n a0n a1n a2n a3n d0n d1n d2n d3n x1 y1 a0 a1 a2 a3 d0 d1 d2 d3
        generalize wr.heap.size + 1 = g2 at *
        generalize wr.heap.size = g1 at *
        have p0 : w2.cell? ⟨g1, 0, none⟩ = some (.string ⟨nm.toArray⟩) := XP.out.cell 0
        have q0 : w2.cell? ⟨g2, 0, none⟩ = some (.string ⟨nm.toArray⟩) := YQ.out.cell 0
        have p1 : w2.cell? ⟨g1, 1, none⟩ = some (.int .i64 s) := XP.out.cell 1
        have q1 : w2.cell? ⟨g2, 1, none⟩ = some (.int .i64 s) := YQ.out.cell 1
        have p2 : w2.cell? ⟨g1, 2, none⟩ = some (.slice sA sn sc1) := XP.out.cell 2
        have q2 : w2.cell? ⟨g2, 2, none⟩ = some (.slice tA tn tc) := YQ.out.cell 2
        have p3 : w2.cell? ⟨g1, 3, none⟩ = some (.slice eA en ec) := XP.out.cell 3
        have q3 : w2.cell? ⟨g2, 3, none⟩ = some (.slice gA gn gc) := YQ.out.cell 3
        go_wp2_with (first | (go_at_call 37; refine (HSQ.out _ (Ext.trans E0.out (Ext.trans HX.out E2.out))).mono ?_; rintro e w3 ⟨rfl, hx3⟩; have E3 := hide hx3; clear hx3; have p3 := E3.out.cell p3; have q3 := E3.out.cell q3) | (go_at_call 38; refine (HEQ.out _ (Ext.trans E0.out (Ext.trans HX.out (Ext.trans E2.out E3.out)))).mono ?_; rintro e w4 ⟨rfl, hx4⟩; have E4 := hide hx4; clear hx4))
        go_roundw
        case rel => exact ⟨k + 1, by omega, rfl, hide (Ext.trans HX.out (Ext.trans E2.out (Ext.trans E3.out E4.out)))⟩
        case measure => simp [intOf]; omega
      · have E2 := hide (Ext.trans (Ext.trans (Ext.alloc wr (.cells #[.string ⟨nm.toArray⟩, .int .i64 s, .slice tA tn tc, .slice gA gn gc] 53)) (Ext.alloc _ (.cells #[.string ⟨nm.toArray⟩, .int .i64 s, .slice sA sn sc1, .slice eA en ec] 53))) (Ext.drew _))
        have XP := hide (((Blk.new wr 53 #[.string ⟨nm.toArray⟩, .int .i64 s, .slice tA tn tc, .slice gA gn gc]).alloc (.cells #[.string ⟨nm.toArray⟩, .int .i64 s, .slice sA sn sc1, .slice eA en ec] 53)).ext (Ext.drew _))
        have YQ := hide ((Blk.new (wr.alloc (.cells #[.string ⟨nm.toArray⟩, .int .i64 s, .slice tA tn tc, .slice gA gn gc] 53)) 53 #[.string ⟨nm.toArray⟩, .int .i64 s, .slice sA sn sc1, .slice eA en ec]).ext (Ext.drew _))
        refine gen_th fun w2 h2 => ?_
        rw [← h2] at E2 XP YQ
        rw [World.size_alloc] at YQ
        clear h2 x1n y1n a0n a1n a2n a3n d0n d1n d2n d3n x1 y1 a0 a1 a2 a3 d0 d1 d2 d3
        generalize wr.heap.size + 1 = g2 at *
        generalize wr.heap.size = g1 at *
        have p0 : w2.cell? ⟨g1, 0, none⟩ = some (.string ⟨nm.toArray⟩) := XP.out.cell 0
        have q0 : w2.cell? ⟨g2, 0, none⟩ = some (.string ⟨nm.toArray⟩) := YQ.out.cell 0
        have p1 : w2.cell? ⟨g1, 1, none⟩ = some (.int .i64 s) := XP.out.cell 1
        have q1 : w2.cell? ⟨g2, 1, none⟩ = some (.int .i64 s) := YQ.out.cell 1
        have p2 : w2.cell? ⟨g1, 2, none⟩ = some (.slice tA tn tc) := XP.out.cell 2
        have q2 : w2.cell? ⟨g2, 2, none⟩ = some (.slice sA sn sc1) := YQ.out.cell 2
        have p3 : w2.cell? ⟨g1, 3, none⟩ = some (.slice gA gn gc) := XP.out.cell 3
        have q3 : w2.cell? ⟨g2, 3, none⟩ = some (.slice eA en ec) := YQ.out.cell 3
        go_wp2_with (first | (go_at_call 37; refine (HSQ.out _ (Ext.trans E0.out (Ext.trans HX.out E2.out))).mono ?_; rintro e w3 ⟨rfl, hx3⟩; have E3 := hide hx3; clear hx3; have p3 := E3.out.cell p3; have q3 := E3.out.cell q3) | (go_at_call 38; refine (HEQ.out _ (Ext.trans E0.out (Ext.trans HX.out (Ext.trans E2.out E3.out)))).mono ?_; rintro e w4 ⟨rfl, hx4⟩; have E4 := hide hx4; clear hx4))
        go_roundw
        case rel => exact ⟨k + 1, by omega, rfl, hide (Ext.trans HX.out (Ext.trans E2.out (Ext.trans E3.out E4.out)))⟩
        case measure => simp [intOf]; omega
    · obtain rfl : k = n := by omega
      have i9 : ¬ (k : Int) < (k : Int) := by omega
      clear hlt hk
      go_wp2_with fail
      go_ret
      exact ⟨rfl, Ext.trans E0.out HX.out⟩
end Go.Proofs.Ytlonhkjplijlcaa
namespace Go.Proofs.Ytlonhkjplijlcaa
open Go.RowKit
set_option linter.unusedVariables false in
set_option linter.unusedSimpArgs false in
set_option maxRecDepth 100000 in
set_option maxHeartbeats 8000000 in
theorem sameData_any {A : Option Addr} {n c : Nat} {hs : List (Option Addr × Nat × Nat)} {B : Option Addr} {m d : Nat} {hs2 : List (Option Addr × Nat × Nat)} {D : List (List UInt8)} {w : World} (h1 : DtsAt w A n c hs D) (h2 : DtsAt w B m d hs2 D) :
    Calls Try.prog 13 #[.slice A n c, .slice B m d] w fun e w' => e = .returned (.bool true) ∧ Ext w w' := by
  obtain rfl : n = m := h1.len.symm.trans h2.len
  have hb := h1.at_.bound
  have H1 := hide h1
  have H2 := hide h2
  clear h1 h2
  go_enter Try.func13, Try.ntmps13
  go_wp2_with fail
  go_loopw [5] (fun ri wr => ∃ k : Nat, k ≤ n ∧ ri = .int .i64 k ∧ Hid (Ext w wr)) (fun i _ => n - (intOf i).toNat)
  case atStart => exact ⟨0, by omega, rfl, hide (Ext.refl _)⟩
  case round =>
    obtain ⟨k, hk, rfl, HX⟩ := hrel
    by_cases hlt : k < n
    · have hat := H1.out.at_.ext HX.out
      have hbt := H2.out.at_.ext HX.out
      have ok1 := H1.out.ok k hlt
      have ok2 := H2.out.ok k hlt
      obtain ⟨b1, o1, rfl, _⟩ := hat.addr (by omega)
      obtain ⟨b2, o2, rfl, _⟩ := hbt.addr (by omega)
      obtain ⟨z1, hz1⟩ : ∃ z, hs.getD k (none, 0, 0) = z := ⟨_, rfl⟩
      obtain ⟨z2, hz2⟩ : ∃ z, hs2.getD k (none, 0, 0) = z := ⟨_, rfl⟩
      rw [hz1] at ok1
      rw [hz2] at ok2
      have a0 : wr.cell? ⟨b1, o1 + k * 1, none⟩ = some (.slice z1.1 z1.2.1 z1.2.2) := hat.cellK hlt (none, 0, 0) 0 _ (by rw [hz1]; rfl)
      have d0 : wr.cell? ⟨b2, o2 + k * 1, none⟩ = some (.slice z2.1 z2.2.1 z2.2.2) := hbt.cellK hlt (none, 0, 0) 0 _ (by rw [hz2]; rfl)
      rw [Nat.mul_one] at a0 d0
      have HBE := hide (fun (W : World) (hW : Ext w W) => Calls.mono (bytesEq_any (ok1.ext hW) (ok2.ext hW)) (fun e w' he => (⟨by rw [he.1]; simp, he.2⟩ : e = .returned (.bool true) ∧ W = w')))
      generalize z1.1 = sA at *
      generalize z1.2.1 = sn at *
      generalize z1.2.2 = sc1 at *
      generalize z2.1 = tA at *
      generalize z2.2.1 = tn at *
      generalize z2.2.2 = tc at *
      have i1 : (k : Int) < (n : Int) := by omega
      have i0 : (0 : Int) ≤ (k : Int) := by omega
      have i8 : IntKind.i64.wrap ((k : Int) + 1) = (k : Int) + 1 := by rw [IntKind.wrap_i64]; omega
      clear hat hbt ok1 ok2 hz1 hz2
      go_wp2_with fail
      go_quiet ((go_at_call 8; exact quiet_left (HBE.out _ (below_drewN HX.out _))))
      go_wp2
      go_roundw
      case rel => exact ⟨k + 1, by omega, by go_num, below_drewN HX.out _⟩
      case measure => simp [intOf]; omega
    · obtain rfl : k = n := by omega
      have i9 : ¬ (k : Int) < (k : Int) := by omega
      clear hlt hk
      go_wp2_with fail
      go_ret
      exact ⟨rfl, HX.out⟩
end Go.Proofs.Ytlonhkjplijlcaa
namespace Go.Proofs.Ytlonhkjplijlcaa
/-- Where one reads, and whether something was wrong there. -/
structure Rd where
  pos : Nat
  bad : Bool
/-- A number of so many bytes. -/
def rdN (b : List UInt8) (k : Nat) (s : Rd) : Nat × Rd := if s.bad = true ∨ b.length - s.pos < k then (0, ⟨s.pos, true⟩) else (numB (cutB b s.pos (s.pos + k)), ⟨s.pos + k, false⟩)
/-- A byte that is at most so great. -/
def rdF (b : List UInt8) (most : Nat) (s : Rd) : Nat × Rd := if (rdN b 1 s).2.bad = false ∧ most < (rdN b 1 s).1 then ((rdN b 1 s).1, ⟨s.pos, true⟩) else rdN b 1 s
/-- Nothing may be left. -/
def rdE (b : List UInt8) (s : Rd) : Rd := if s.bad = false ∧ s.pos < b.length then ⟨s.pos, true⟩ else s
theorem rdN_bad {b : List UInt8} {k : Nat} {s : Rd} (h : s.bad = true ∨ b.length - s.pos < k) : rdN b k s = (0, ⟨s.pos, true⟩) := by unfold rdN; rw [if_pos h]
theorem rdN_ok {b : List UInt8} {k : Nat} {s : Rd} (h : s.bad = false) (h2 : k ≤ b.length - s.pos) : rdN b k s = (numB (cutB b s.pos (s.pos + k)), ⟨s.pos + k, false⟩) := by
  unfold rdN; rw [if_neg (by rw [h]; simp; omega)]
theorem rdN_pos {b : List UInt8} {k : Nat} {s : Rd} (h : s.pos ≤ b.length) : (rdN b k s).2.pos ≤ b.length := by
  unfold rdN
  split
  · exact h
  · rename_i hc
    have : ¬ b.length - s.pos < k := fun h1 => hc (.inr h1)
    show s.pos + k ≤ b.length
    omega
theorem cutB_len {b : List UInt8} {i k : Nat} (h : i + k ≤ b.length) : (cutB b i (i + k)).length = k := by
  unfold cutB; rw [List.length_take, List.length_drop]; omega
theorem rdN_lt {b : List UInt8} {k : Nat} (s : Rd) (hk : 0 < k) : (rdN b k s).1 < 256 ^ k := by
  unfold rdN
  split
  · exact Nat.pow_pos (by omega)
  · rename_i hc
    have h1 : ¬ b.length - s.pos < k := fun h1 => hc (.inr h1)
    exact numB_lt k _ (cutB_len (by omega))
theorem rdF_pos {b : List UInt8} {most : Nat} {s : Rd} (h : s.pos ≤ b.length) : (rdF b most s).2.pos ≤ b.length := by
  unfold rdF
  split
  · exact h
  · exact rdN_pos h
theorem rdN_was {b : List UInt8} {k : Nat} {s : Rd} (h : (rdN b k s).2.bad = false) : s.bad = false := by
  unfold rdN at h
  split at h
  · cases h
  · rename_i hc
    cases hb : s.bad with
    | false => rfl
    | true => exact absurd (.inl hb) hc
theorem rdN_stays {b : List UInt8} {k : Nat} {s : Rd} (h : s.bad = true) : rdN b k s = (0, s) := by
  rw [rdN_bad (.inl h)]; cases s; simp at h; subst h; rfl
end Go.Proofs.Ytlonhkjplijlcaa
namespace Go.Proofs.Ytlonhkjplijlcaa
/-- A table. -/
structure Tab where
  start : Int
  steps : List (Int × Int)
  shifts : List (Int × Int)
  sizes : List Int
  keys : List Int
  nok : Bool
  chunks : List (Int × Int)
  places : List Int
/-- A run is out of its range. -/
def badR (least : Int) (r : Int × Int) : Bool := decide (r.1 < 1 ∨ 5000 < r.1) || decide (r.2 < least ∨ 1000000000 < r.2)
def rnEl (least : Int) (l : List (Int × Int)) (i : Nat) : Int := if badR least (l.getD i (0, 0)) = true then 1 else 0
def runsF (least : Int) (l : List (Int × Int)) : Int := firstF (rnEl least l) l.length
/-- The counts of the first runs. -/
def cntI (l : List (Int × Int)) : Nat → Int
  | 0 => 0
  | k + 1 => cntI l k + (l.getD k (0, 0)).1
def cntA (l : List (Int × Int)) : Int := cntI l l.length
def szEl (l : List Int) (i : Nat) : Int := if l.getD i 0 < 0 ∨ 100000 < l.getD i 0 then 1 else 0
def kyEl (n : Int) (l : List Int) (i : Nat) : Int := if l.getD i 0 < 1 ∨ n < l.getD i 0 then 1 else if 0 < i ∧ l.getD i 0 ≤ l.getD (i - 1) 0 then 8 else 0
/-- A chunk is out of its range. -/
def badC (r : Int × Int) : Bool := decide (r.1 < 1 ∨ 5000 < r.1) || decide (r.2 < 1 ∨ 1000 < r.2)
def ordC (l : List (Int × Int)) (i : Nat) : Bool := decide ((i = 0 ∧ (l.getD i (0, 0)).1 ≠ 1) ∨ (0 < i ∧ (l.getD i (0, 0)).1 ≤ (l.getD (i - 1) (0, 0)).1))
def chEl (l : List (Int × Int)) (i : Nat) : Int := if badC (l.getD i (0, 0)) = true then 1 else if ordC l i = true then 8 else 0
def chForm (l : List (Int × Int)) (p : Nat) : Prop := (0 < p ∧ l.length = 0) ∨ (0 < l.length ∧ (p : Int) < (l.getD (l.length - 1) (0, 0)).1)
instance (l : List (Int × Int)) (p : Nat) : Decidable (chForm l p) := by unfold chForm; infer_instance
def nextC (l : List (Int × Int)) (p i : Nat) : Int := if i + 1 < l.length then (l.getD (i + 1) (0, 0)).1 else (p : Int) + 1
def chSum (l : List (Int × Int)) (p : Nat) : Nat → Int
  | 0 => 0
  | k + 1 => chSum l p k + (nextC l p k - (l.getD k (0, 0)).1) * (l.getD k (0, 0)).2
def plEl (l : List Int) (i : Nat) : Int := if l.getD i 0 < 0 ∨ 1000000 < l.getD i 0 then 1 else 0
def chunksF (n : Int) (l : List (Int × Int)) (pl : List Int) : Int :=
  if firstF (chEl l) l.length ≠ 0 then firstF (chEl l) l.length else if chForm l pl.length then 3 else if chSum l pl.length l.length ≠ n then 3 else firstF (plEl pl) pl.length
/-- The end of the first runs. -/
def endI (s : Int) (l : List (Int × Int)) : Nat → Int
  | 0 => s
  | k + 1 => endI s l k + (l.getD k (0, 0)).1 * (l.getD k (0, 0)).2
def szBad (n : Int) (m : Nat) : Prop := (m : Int) ≠ n ∧ (n = 0 ∨ m ≠ 1)
instance (n : Int) (m : Nat) : Decidable (szBad n m) := by unfold szBad; infer_instance
/-- The fault of a table behind that of its start and its steps. -/
def tabF3 (t : Tab) : Int :=
  if chunksF (cntA t.steps) t.chunks t.places ≠ 0 then chunksF (cntA t.steps) t.chunks t.places
  else if noT (endI t.start t.steps t.steps.length) = true then 1 else 0
def tabF2 (t : Tab) : Int :=
  if cntA t.shifts ≠ cntA t.steps ∨ szBad (cntA t.steps) t.sizes.length then 3
  else if firstF (szEl t.sizes) t.sizes.length ≠ 0 then firstF (szEl t.sizes) t.sizes.length
  else if firstF (kyEl (cntA t.steps) t.keys) t.keys.length ≠ 0 then firstF (kyEl (cntA t.steps) t.keys) t.keys.length
  else tabF3 t
def tabF (t : Tab) : Int :=
  if noT t.start = true then 1 else if runsF 0 t.steps ≠ 0 then runsF 0 t.steps else if 5000 < cntA t.steps then 2
  else if runsF (-1000000000) t.shifts ≠ 0 then runsF (-1000000000) t.shifts else tabF2 t
theorem badR_ok {least : Int} {r : Int × Int} (h : badR least r = false) : 1 ≤ r.1 ∧ r.1 ≤ 5000 ∧ least ≤ r.2 ∧ r.2 ≤ 1000000000 := by
  unfold badR at h
  simp only [Bool.or_eq_false_iff, decide_eq_false_iff_not] at h
  omega
theorem runs_ok {least : Int} {l : List (Int × Int)} (h : runsF least l = 0) : ∀ i, i < l.length → 1 ≤ (l.getD i (0, 0)).1 ∧ (l.getD i (0, 0)).1 ≤ 5000 ∧ least ≤ (l.getD i (0, 0)).2 ∧ (l.getD i (0, 0)).2 ≤ 1000000000 := by
  intro i hi
  have := firstF_all h i hi
  unfold rnEl at this
  cases hb : badR least (l.getD i (0, 0)) with
  | true => rw [hb, if_pos rfl] at this; omega
  | false => exact badR_ok hb
theorem cntI_bd {least : Int} {l : List (Int × Int)} (h : runsF least l = 0) : ∀ k, k ≤ l.length → (k : Int) ≤ cntI l k ∧ cntI l k ≤ 5000 * (k : Int)
  | 0, _ => by simp [cntI]
  | k + 1, hk => by
    have ih := cntI_bd h k (by omega)
    have := runs_ok h k (by omega)
    rw [cntI]; omega
theorem endI_bd {s : Int} {l : List (Int × Int)} (h : runsF 0 l = 0) : ∀ k, k ≤ l.length → s ≤ endI s l k ∧ endI s l k ≤ s + 1000000000 * cntI l k
  | 0, _ => by simp [endI, cntI]
  | k + 1, hk => by
    have ih := endI_bd (s := s) h k (by omega)
    have h1 := runs_ok h k (by omega)
    have hc := cntI_bd h k (by omega)
    rw [endI, cntI]
    have h2 : 0 ≤ (l.getD k (0, 0)).1 * (l.getD k (0, 0)).2 := Int.mul_nonneg (by omega) (by omega)
    have h3 : (l.getD k (0, 0)).1 * (l.getD k (0, 0)).2 ≤ (l.getD k (0, 0)).1 * 1000000000 := Int.mul_le_mul_of_nonneg_left (by omega) (by omega)
    generalize (l.getD k (0, 0)).1 * (l.getD k (0, 0)).2 = q at *
    omega
theorem badC_ok {r : Int × Int} (h : badC r = false) : 1 ≤ r.1 ∧ r.1 ≤ 5000 ∧ 1 ≤ r.2 ∧ r.2 ≤ 1000 := by
  unfold badC at h
  simp only [Bool.or_eq_false_iff, decide_eq_false_iff_not] at h
  omega
/-- Chunks that are right: ascending from 1 on. -/
theorem ch_ok {l : List (Int × Int)} (h : firstF (chEl l) l.length = 0) : ∀ i, i < l.length → (1 ≤ (l.getD i (0, 0)).1 ∧ (l.getD i (0, 0)).1 ≤ 5000 ∧ 1 ≤ (l.getD i (0, 0)).2 ∧ (l.getD i (0, 0)).2 ≤ 1000) ∧ (i = 0 → (l.getD i (0, 0)).1 = 1) ∧ (0 < i → (l.getD (i - 1) (0, 0)).1 < (l.getD i (0, 0)).1) := by
  intro i hi
  have := firstF_all h i hi
  unfold chEl at this
  cases hb : badC (l.getD i (0, 0)) with
  | true => rw [hb, if_pos rfl] at this; omega
  | false =>
    rw [hb, if_neg (by simp)] at this
    refine ⟨badC_ok hb, ?_⟩
    cases ho : ordC l i with
    | true => rw [ho, if_pos rfl] at this; omega
    | false =>
      unfold ordC at ho
      simp only [decide_eq_false_iff_not] at ho
      constructor
      · intro h0; exact Classical.byContradiction fun hc => ho (.inl ⟨h0, hc⟩)
      · intro h0; exact Int.not_le.1 fun hc => ho (.inr ⟨h0, hc⟩)
theorem ch_asc {l : List (Int × Int)} (h : firstF (chEl l) l.length = 0) : ∀ i, i < l.length → (i : Int) + 1 ≤ (l.getD i (0, 0)).1
  | 0, hi => by have := (ch_ok h 0 hi).2.1 rfl; omega
  | i + 1, hi => by
    have ih := ch_asc h i (by omega)
    have := (ch_ok h (i + 1) hi).2.2 (by omega)
    rw [show i + 1 - 1 = i by omega] at this
    omega
theorem ch_len {l : List (Int × Int)} (h : firstF (chEl l) l.length = 0) : l.length ≤ 5000 := by
  rcases Nat.eq_zero_or_pos l.length with h0 | h0
  · omega
  · have h1 := ch_asc h (l.length - 1) (by omega)
    have h2 := (ch_ok h (l.length - 1) (by omega)).1
    omega
/-- The partial sums don't run over. -/
theorem chSum_bd {l : List (Int × Int)} {p : Nat} (h : firstF (chEl l) l.length = 0) (hf : ¬ chForm l p) : ∀ k, k < l.length → (0 ≤ chSum l p k ∧ chSum l p k ≤ 1000 * ((l.getD k (0, 0)).1 - 1)) ∧ (1 ≤ nextC l p k - (l.getD k (0, 0)).1 ∧ nextC l p k ≤ (p : Int) + 5001) ∧ (1 ≤ (nextC l p k - (l.getD k (0, 0)).1) * (l.getD k (0, 0)).2 ∧ (nextC l p k - (l.getD k (0, 0)).1) * (l.getD k (0, 0)).2 ≤ 1000 * (nextC l p k - (l.getD k (0, 0)).1)) := by
  have hstep : ∀ k, k < l.length → (1 ≤ nextC l p k - (l.getD k (0, 0)).1 ∧ nextC l p k ≤ (p : Int) + 5001) ∧ (1 ≤ (nextC l p k - (l.getD k (0, 0)).1) * (l.getD k (0, 0)).2 ∧ (nextC l p k - (l.getD k (0, 0)).1) * (l.getD k (0, 0)).2 ≤ 1000 * (nextC l p k - (l.getD k (0, 0)).1)) := by
    intro k hk
    have h1 := (ch_ok h k hk).1
    have h2 : 1 ≤ nextC l p k - (l.getD k (0, 0)).1 ∧ nextC l p k ≤ (p : Int) + 5001 := by
      unfold nextC
      split
      · rename_i h3
        have h4 := (ch_ok h (k + 1) h3).2.2 (by omega)
        have h5 := (ch_ok h (k + 1) h3).1
        rw [show k + 1 - 1 = k by omega] at h4
        omega
      · rename_i h3
        have h4 : ¬ ((p : Int) < (l.getD (l.length - 1) (0, 0)).1) := fun hc => hf (.inr ⟨by omega, hc⟩)
        rw [show l.length - 1 = k by omega] at h4
        omega
    refine ⟨h2, ?_⟩
    generalize nextC l p k - (l.getD k (0, 0)).1 = d at *
    have h6 : d * 1 ≤ d * (l.getD k (0, 0)).2 := Int.mul_le_mul_of_nonneg_left (by omega) (by omega)
    have h7 : d * (l.getD k (0, 0)).2 ≤ d * 1000 := Int.mul_le_mul_of_nonneg_left (by omega) (by omega)
    omega
  intro k
  induction k with
  | zero =>
    intro hk
    have := (ch_ok h 0 hk).2.1 rfl
    exact ⟨by rw [chSum]; omega, hstep 0 hk⟩
  | succ k ih =>
    intro hk
    have ih := ih (by omega)
    refine ⟨?_, hstep _ hk⟩
    have h8 : nextC l p k = (l.getD (k + 1) (0, 0)).1 := by unfold nextC; rw [if_pos hk]
    rw [chSum]
    rw [h8] at ih ⊢
    omega
theorem tabF_start {t : Tab} (h : noT t.start = true) : tabF t = 1 := by unfold tabF; rw [if_pos h]
theorem tabF_steps {t : Tab} (h : noT t.start = false) (h1 : runsF 0 t.steps ≠ 0) : tabF t = runsF 0 t.steps := by unfold tabF; rw [if_neg (by rw [h]; simp), if_pos h1]
theorem tabF_large {t : Tab} (h : noT t.start = false) (h1 : runsF 0 t.steps = 0) (h2 : 5000 < cntA t.steps) : tabF t = 2 := by unfold tabF; rw [if_neg (by rw [h]; simp), if_neg (by omega), if_pos h2]
theorem tabF_shifts {t : Tab} (h : noT t.start = false) (h1 : runsF 0 t.steps = 0) (h2 : ¬ 5000 < cntA t.steps) (h3 : runsF (-1000000000) t.shifts ≠ 0) : tabF t = runsF (-1000000000) t.shifts := by unfold tabF; rw [if_neg (by rw [h]; simp), if_neg (by omega), if_neg h2, if_pos h3]
theorem tabF_two {t : Tab} (h : noT t.start = false) (h1 : runsF 0 t.steps = 0) (h2 : ¬ 5000 < cntA t.steps) (h3 : runsF (-1000000000) t.shifts = 0) : tabF t = tabF2 t := by unfold tabF; rw [if_neg (by rw [h]; simp), if_neg (by omega), if_neg h2, if_neg (by omega)]
theorem tabF2_form {t : Tab} (h : cntA t.shifts ≠ cntA t.steps ∨ szBad (cntA t.steps) t.sizes.length) : tabF2 t = 3 := by unfold tabF2; rw [if_pos h]
theorem tabF2_sizes {t : Tab} (h : ¬ (cntA t.shifts ≠ cntA t.steps ∨ szBad (cntA t.steps) t.sizes.length)) (h1 : firstF (szEl t.sizes) t.sizes.length ≠ 0) : tabF2 t = firstF (szEl t.sizes) t.sizes.length := by unfold tabF2; rw [if_neg h, if_pos h1]
theorem tabF2_keys {t : Tab} (h : ¬ (cntA t.shifts ≠ cntA t.steps ∨ szBad (cntA t.steps) t.sizes.length)) (h1 : firstF (szEl t.sizes) t.sizes.length = 0) (h2 : firstF (kyEl (cntA t.steps) t.keys) t.keys.length ≠ 0) : tabF2 t = firstF (kyEl (cntA t.steps) t.keys) t.keys.length := by unfold tabF2; rw [if_neg h, if_neg (by omega), if_pos h2]
theorem tabF2_three {t : Tab} (h : ¬ (cntA t.shifts ≠ cntA t.steps ∨ szBad (cntA t.steps) t.sizes.length)) (h1 : firstF (szEl t.sizes) t.sizes.length = 0) (h2 : firstF (kyEl (cntA t.steps) t.keys) t.keys.length = 0) : tabF2 t = tabF3 t := by unfold tabF2; rw [if_neg h, if_neg (by omega), if_neg (by omega)]
end Go.Proofs.Ytlonhkjplijlcaa
namespace Go.Proofs.Ytlonhkjplijlcaa
open Go.RowKit
/-- How many numbers a list has, and where they begin. -/
def lsH (b : List UInt8) (each : Nat) (s : Rd) : Nat × Rd :=
  if (rdN b 4 s).2.bad = true then (0, (rdN b 4 s).2)
  else if b.length - (rdN b 4 s).2.pos < (rdN b 4 s).1 * each * 8 then (0, ⟨s.pos, true⟩)
  else ((rdN b 4 s).1 * each, (rdN b 4 s).2)
/-- So many numbers of eight bytes. -/
def nmL (b : List UInt8) (s : Rd) : Nat → List Int × Rd
  | 0 => ([], s)
  | k + 1 => ((nmL b s k).1 ++ [IntKind.i64.wrap ((rdN b 8 (nmL b s k).2).1 : Int)], (rdN b 8 (nmL b s k).2).2)
def lsF (b : List UInt8) (each : Nat) (s : Rd) : List Int × Rd := nmL b (lsH b each s).2 (lsH b each s).1
theorem nmL_len (b : List UInt8) (s : Rd) : ∀ k, (nmL b s k).1.length = k
  | 0 => rfl
  | k + 1 => by rw [nmL]; simp [nmL_len b s k]
theorem nmL_ok {b : List UInt8} {p : Nat} {m : Nat} (h : 8 * m ≤ b.length - p) : ∀ k, k ≤ m → (nmL b ⟨p, false⟩ k).2 = ⟨p + 8 * k, false⟩
  | 0, _ => rfl
  | k + 1, hk => by
    rw [nmL, nmL_ok h k (by omega)]
    show (rdN b 8 ⟨p + 8 * k, false⟩).2 = _
    rw [rdN_ok rfl (by show 8 ≤ b.length - (p + 8 * k); omega)]
    show (⟨p + 8 * k + 8, false⟩ : Rd) = _
    rw [show p + 8 * k + 8 = p + 8 * (k + 1) by omega]
theorem lsH_cases (b : List UInt8) (each : Nat) (s : Rd) :
    ((rdN b 4 s).2.bad = true ∧ lsH b each s = (0, (rdN b 4 s).2)) ∨
    ((rdN b 4 s).2.bad = false ∧ b.length - (rdN b 4 s).2.pos < (rdN b 4 s).1 * each * 8 ∧ lsH b each s = (0, ⟨s.pos, true⟩)) ∨
    ((rdN b 4 s).2.bad = false ∧ (rdN b 4 s).1 * each * 8 ≤ b.length - (rdN b 4 s).2.pos ∧ lsH b each s = ((rdN b 4 s).1 * each, (rdN b 4 s).2)) := by
  unfold lsH
  cases hb : (rdN b 4 s).2.bad with
  | true => left; exact ⟨rfl, by rw [if_pos rfl]⟩
  | false =>
    right
    by_cases hc : b.length - (rdN b 4 s).2.pos < (rdN b 4 s).1 * each * 8
    · left; exact ⟨rfl, hc, by rw [if_neg (by simp), if_pos hc]⟩
    · right; exact ⟨rfl, by omega, by rw [if_neg (by simp), if_neg hc]⟩
theorem lsH_few (b : List UInt8) (each : Nat) (s : Rd) : (lsH b each s).1 * 8 ≤ b.length := by
  rcases lsH_cases b each s with ⟨_, h⟩ | ⟨_, _, h⟩ | ⟨_, h2, h⟩ <;> rw [h] <;> simp <;> omega
theorem lsF_len (b : List UInt8) (each : Nat) (s : Rd) : (lsF b each s).1.length = (lsH b each s).1 := nmL_len _ _ _
theorem lsF_pos {b : List UInt8} {each : Nat} {s : Rd} (h : s.pos ≤ b.length) : (lsF b each s).2.pos ≤ b.length := by
  have hp : (rdN b 4 s).2.pos ≤ b.length := rdN_pos h
  unfold lsF
  rcases lsH_cases b each s with ⟨_, h1⟩ | ⟨_, _, h1⟩ | ⟨h0, h2, h1⟩
  · rw [h1]; exact hp
  · rw [h1]; exact h
  · rw [h1]
    have e : (rdN b 4 s).2 = ⟨(rdN b 4 s).2.pos, false⟩ := by rw [← h0]
    show (nmL b (rdN b 4 s).2 ((rdN b 4 s).1 * each)).2.pos ≤ _
    generalize (rdN b 4 s).2 = q at *
    rw [e, nmL_ok (m := (rdN b 4 s).1 * each) (by omega) _ (Nat.le_refl _)]
    show q.pos + 8 * ((rdN b 4 s).1 * each) ≤ _
    omega
/-- Pairs of numbers that follow one another. -/
def prK (l : List Int) (k : Nat) : List (Int × Int) := (List.range k).map fun i => (l.getD (2 * i) 0, l.getD (2 * i + 1) 0)
def prL (l : List Int) : List (Int × Int) := prK l (l.length / 2)
theorem prK_len (l : List Int) (k : Nat) : (prK l k).length = k := by unfold prK; simp
theorem prK_succ (l : List Int) (k : Nat) : prK l (k + 1) = prK l k ++ [(l.getD (2 * k) 0, l.getD (2 * k + 1) 0)] := by unfold prK; rw [List.range_succ, List.map_append]; rfl
def r0F (b : List UInt8) : Nat × Rd := rdN b 8 ⟨0, false⟩
def r1F (b : List UInt8) : List Int × Rd := lsF b 2 (r0F b).2
def r2F (b : List UInt8) : List Int × Rd := lsF b 2 (r1F b).2
def r3F (b : List UInt8) : List Int × Rd := lsF b 1 (r2F b).2
def r4F (b : List UInt8) : Nat × Rd := rdF b 1 (r3F b).2
/-- Keys are there. -/
def hasK (b : List UInt8) : Bool := decide ((r4F b).1 = 1) && !(r4F b).2.bad
def r5F (b : List UInt8) : List Int × Rd := if hasK b = true then lsF b 1 (r4F b).2 else ([], (r4F b).2)
def r6F (b : List UInt8) : List Int × Rd := lsF b 2 (r5F b).2
def r7F (b : List UInt8) : List Int × Rd := lsF b 1 (r6F b).2
def rtE (b : List UInt8) : Rd := rdE b (r7F b).2
/-- The table that is read. -/
def rtT (b : List UInt8) : Tab := ⟨IntKind.i64.wrap ((r0F b).1 : Int), prL (r1F b).1, prL (r2F b).1, (r3F b).1, (r5F b).1, !hasK b, prL (r6F b).1, (r7F b).1⟩
def noTab : Tab := ⟨0, [], [], [], [], true, [], []⟩
/-- The fault of readTable, and its place, and what it gives. -/
def rtF (b : List UInt8) : Int := if 1000000 < b.length then 2 else if (rtE b).bad = true then 10 else 0
def rtA (b : List UInt8) : Int := if 1000000 < b.length then 0 else if (rtE b).bad = true then ((rtE b).pos : Int) else 0
def rtV (b : List UInt8) : Tab := if rtF b = 0 then rtT b else noTab
theorem r_pos (b : List UInt8) : (r0F b).2.pos ≤ b.length ∧ (r1F b).2.pos ≤ b.length ∧ (r2F b).2.pos ≤ b.length ∧ (r3F b).2.pos ≤ b.length ∧ (r4F b).2.pos ≤ b.length ∧ (r5F b).2.pos ≤ b.length ∧ (r6F b).2.pos ≤ b.length ∧ (r7F b).2.pos ≤ b.length := by
  have h0 : (r0F b).2.pos ≤ b.length := rdN_pos (Nat.zero_le _)
  have h1 : (r1F b).2.pos ≤ b.length := lsF_pos h0
  have h2 : (r2F b).2.pos ≤ b.length := lsF_pos h1
  have h3 : (r3F b).2.pos ≤ b.length := lsF_pos h2
  have h4 : (r4F b).2.pos ≤ b.length := rdF_pos h3
  have h5 : (r5F b).2.pos ≤ b.length := by
    unfold r5F; split
    · exact lsF_pos h4
    · exact h4
  have h6 : (r6F b).2.pos ≤ b.length := lsF_pos h5
  exact ⟨h0, h1, h2, h3, h4, h5, h6, lsF_pos h6⟩
theorem r_few (b : List UInt8) : (r1F b).1.length * 8 ≤ b.length ∧ (r2F b).1.length * 8 ≤ b.length ∧ (r3F b).1.length * 8 ≤ b.length ∧ (r5F b).1.length * 8 ≤ b.length ∧ (r6F b).1.length * 8 ≤ b.length ∧ (r7F b).1.length * 8 ≤ b.length := by
  have key : ∀ each s, (lsF b each s).1.length * 8 ≤ b.length := fun each s => by rw [lsF_len]; exact lsH_few b each s
  refine ⟨key _ _, key _ _, key _ _, ?_, key _ _, key _ _⟩
  unfold r5F; split
  · exact key _ _
  · simp
end Go.Proofs.Ytlonhkjplijlcaa
namespace Go.Proofs.Ytlonhkjplijlcaa
end Go.Proofs.Ytlonhkjplijlcaa
