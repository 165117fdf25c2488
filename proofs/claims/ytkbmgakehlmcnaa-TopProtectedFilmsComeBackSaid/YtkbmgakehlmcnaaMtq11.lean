/- Several texts in one: Walk of the document's stream. Conditions: lengths as stated; Walks of slices.Grow at nil and slices.Concat of two lists of bytes. Conditions: a bound on what they have together; Words for the rows of this seat: a law that returns true and leaves its arguments; arguments opened as lists. Conditions as stated; Words for the rows of this seat: arguments of bytes; the library's Equal of bytes. Conditions as stated; Arguments that are slices of structs (fields of one cell each), read as lists of what the fields say; numbers in an argument. Conditions as stated; Arguments of struct types, opened. Conditions as stated; The statements' awake: it is true. No condition. -/
import Derived.Test.YtkbmgakehlmcnaaMtq10
import Derived.Test.YtkbmgakehlmcnaaMtq07
import Derived.Lib.AppendZerosOnto
import Derived.Lib.SliceRun
import Derived.Test.YtkbmgakehlmcnaaRows
import Derived.Test.YtkbmgakehlmcnaaMtq00
import Derived.ProofKit
import Derived.Lib.Bytes
import Derived.Test.YtkbmgakehlmcnaaMtq06
import Derived.Lib.SmallJoins
import Derived.Deep.Slices
import Derived.Deep.Fields
import Derived.Test.YtkbmgakehlmcnaaMtq03
import Derived.Test.YtkbmgakehlmcnaaMtq08
namespace Go.Proofs.Ytkbmgakehlmcnaa
open Go.RowKit Kc
end Go.Proofs.Ytkbmgakehlmcnaa
namespace Go.Proofs.Ytkbmgakehlmcnaa
open Go.RowKit Kc Go.Lib
end Go.Proofs.Ytkbmgakehlmcnaa
namespace Go.Proofs.Ytkbmgakehlmcnaa
open Go.ChangeShapes Go.WideShapes Go.ChangeAt Go.RowKit
theorem joined_of {P : Program} {f : FuncId} {fn : Func} {s : ChangeSpec} {c : OpenClaim} (p1 : laidOutB P = true) (p2 : mapsRowed P = true) (p3 : P.plainKeys = true) (p4 : P.stopsHeard = true) (p5 : (P.stops == []) = true) (p6 : (P.stopKnobs == []) = true)
    (p7 : P.mayEnter = true) (p8 : P.make = some .cut) (p9 : P.liftsFinal = false) (c1 : c.plainKeys = true) (c2 : c.make = .cut) (c3 : c.lifted = false) (c4 : c.wf (OpenSpec.ofChange s) = true)
    (h1 : (fn.params.all (P.readableRec ·) && namedTie P c.named s.vars && (c.stops == []) && (c.knobs == [])) = true)
    (h2 : (c.inPlace == P.inPlace f) = true) (h3 : (c.unfollowed == P.unfollowed f) = true) (h4 : (c.recurses == P.recurses f) = true) (h5 : (c.named == P.varsNamed f) = true)
    (h6 : ((c.maps == (fn.params.toList ++ s.plain.varTypes P).any (P.mapsRec ·)) && (c.ifaces == (fn.params.toList ++ s.plain.varTypes P).any (P.ifacesRec ·)) && (c.mapsOut == P.mapsAmong fn.resultTypes.toList)) = true)
    (h7 : ((c.loops == (fn.params.toList ++ s.plain.varTypes P).any (P.loopsFrom ·)) && (c.wideKeys == (fn.params.toList ++ s.plain.varTypes P ++ fn.resultTypes.toList).any (P.wideKeysFrom ·))) = true)
    (h8 : (s.vars.all (P.varReadable ·) && fn.resultTypes.all (fun t => P.readableRec t && decide (t < P.types.size)) && (c.ifacesOut == fn.resultTypes.toList.any (P.ifacesRec ·)) && (c.loopsOut == fn.resultTypes.toList.any (P.loopsFrom ·))) = true)
    (h9 : (c.shortTexts.isNone && (c.kinds == (if c.domain.isEmpty then [] else fn.params.toList.map fun t => match P.underlying t with | some (.int k) => some k | _ => none)) && (c.pinned == c.pinnedBy)) = true)
    (h10 : ((c.veiled == (fn.params.toList ++ s.plain.varTypes P ++ fn.resultTypes.toList).any (P.veiledRec ·)) && c.veiledFits P fn.params.toList (fn.params.toList ++ s.plain.varTypes P ++ fn.resultTypes.toList)) = true) :
    joinedFacts P f fn s c = true := by
  simp only [Bool.and_eq_true] at h1 h6 h7 h8 h9 h10
  unfold joinedFacts
  simp only [Bool.and_eq_true]
  have e1 : (c.plainKeys == P.plainKeys) = true := by rw [c1, p3]; rfl
  have e2 : (c.lifted == P.liftsFinal) = true := by rw [c3, p9]; rfl
  have e3 : (P.make == some c.make) = true := by rw [p8, c2]; decide
  refine ⟨⟨⟨⟨⟨⟨⟨⟨⟨⟨⟨⟨⟨⟨⟨⟨⟨⟨⟨⟨⟨⟨⟨⟨⟨⟨⟨⟨⟨⟨⟨c4, p1⟩, p2⟩, h1.1.1.1⟩, h1.1.1.2⟩, h1.1.2⟩, p5⟩, h1.2⟩, p6⟩, h2⟩, h3⟩, h4⟩, h5⟩, h6.1.1⟩, h6.1.2⟩, h6.2⟩, h7.1⟩, h7.2⟩, h8.1.1.1⟩, h8.1.1.2⟩, h8.1.2⟩, h8.2⟩, e1⟩, h9.1.1⟩, p4⟩, p7⟩, e2⟩, e3⟩, h9.1.2⟩, h9.2⟩, h10.1⟩, h10.2⟩
theorem Try.own : ownKnob Try.prog.godebug = none := by kernel_rfl
theorem Try.laidOut : laidOutB Try.prog = true := by kernel_rfl
section
variable {P : Program} {l : List Char}
theorem signs_eq (h : P.initOrder = String.ofList l) : wordsSigns P.initOrder.toList = wordsSigns l := by rw [h, String.toList_ofList]
def headCut (ws : List (List Char)) : Bool :=
  match behindMainWord ws with
  | c :: rest => c == "cut".toList && (c != "gc".toList && c != "spec".toList) && ((stripLifts liftWords (c :: rest)).2.head? == some "cut".toList && (stripLifts liftWords (c :: rest)).1.isEmpty)
  | [] => false
theorem headCut_some {ws : List (List Char)} (h : headCut ws = true) : ∃ c rest, behindMainWord ws = c :: rest ∧ c = "cut".toList ∧ (c == "gc".toList) = false ∧ (c == "spec".toList) = false ∧ (stripLifts liftWords (c :: rest)).2.head? = some "cut".toList ∧ (stripLifts liftWords (c :: rest)).1 = [] := by
  unfold headCut at h
  split at h
  · rename_i c rest hc
    simp only [Bool.and_eq_true, beq_iff_eq, bne_iff_ne, List.isEmpty_iff] at h
    exact ⟨c, rest, hc, h.1.1, by simpa using h.1.2.1, by simpa using h.1.2.2, h.2.1, h.2.2⟩
  · cases h
theorem mayEnter_of (h : P.initOrder = String.ofList l) (hw : headCut (wordsSigns l) = true) (hl : P.laysLater = false) (hb : P.bearsReflect = false) (hd : P.doorFits [] = true) : P.mayEnter = true := by
  obtain ⟨c, rest, h1, h2, h3, h4, h5, h6⟩ := headCut_some hw
  unfold Program.mayEnter
  rw [signs_eq h, h1]
  simp only [h5, h6, hl, hb, hd]
  simp
theorem headLifts_of (h : P.initOrder = String.ofList l) (hw : headCut (wordsSigns l) = true) : P.headLifts = [] := by
  obtain ⟨c, rest, h1, h2, h3, h4, h5, h6⟩ := headCut_some hw
  unfold Program.headLifts
  rw [signs_eq h, h1]
  simp [h5, h6]
theorem make_of (h : P.initOrder = String.ofList l) (hw : headCut (wordsSigns l) = true) : P.make = some .cut := by
  obtain ⟨c, rest, h1, h2, h3, h4, h5, h6⟩ := headCut_some hw
  unfold Program.make
  rw [signs_eq h, h1]
  simp only [h3, h4, Bool.or_self]
  rw [if_neg (by decide), h2]
  simp
theorem liftsFinal_of (h : P.initOrder = String.ofList l) (hw : headCut (wordsSigns l) = true) : P.liftsFinal = false := by
  have hh := headLifts_of h hw
  obtain ⟨c, rest, h1, h2, h3, h4, h5, h6⟩ := headCut_some hw
  unfold Program.liftsFinal
  rw [signs_eq h, h1, hh, h2]
  have e : ("cut".toList == "carried".toList) = false := by decide
  simp
end
set_option maxRecDepth 1000000 in
theorem Try.head : ∃ l, Try.prog.initOrder = String.ofList l ∧ headCut (wordsSigns l) = true := ⟨_, rfl, by kernel_rfl⟩
theorem Try.later : Try.prog.laysLater = false := by kernel_rfl
theorem Try.reflects : Try.prog.bearsReflect = false := by kernel_rfl
theorem Try.door : Try.prog.doorFits [] = true := by kernel_rfl
theorem Try.mayEnter : Try.prog.mayEnter = true := by
  obtain ⟨l, h, hw⟩ := Try.head
  exact mayEnter_of h hw Try.later Try.reflects Try.door
theorem Try.makeCut : Try.prog.make = some .cut := by
  obtain ⟨l, h, hw⟩ := Try.head
  exact make_of h hw
theorem Try.liftsFinal : Try.prog.liftsFinal = false := by
  obtain ⟨l, h, hw⟩ := Try.head
  exact liftsFinal_of h hw
theorem Try.mapsRowed : mapsRowed Try.prog = true := by kernel_rfl
theorem Try.plainKeys : Try.prog.plainKeys = true := by kernel_rfl
theorem Try.stopsHeard : Try.prog.stopsHeard = true := by kernel_rfl
theorem Try.stopsNone : (Try.prog.stops == []) = true := by kernel_rfl
theorem Try.knobsNone : (Try.prog.stopKnobs == []) = true := by kernel_rfl
section
variable {H : Type} {enc : TypeId × Value → H} {P : Program}
theorem below_trodAll (hl : laidOutB P = true) {W W' : World} (hb : Below W.heap.size W W') : ∀ {ts : List TypeId} {vs : List Value} {ds : List (DataW H)} {ps : List MemPlace},
    ts.all (fun t => P.readableRec t && decide (t < P.types.size)) = true → DataW.TrodAll enc P W 0 (fun _ => true) true ts vs ds ps → (∀ x ∈ ps, x.block < W.heap.size) →
    DataW.TrodAll enc P W' 0 (fun b => decide (b < W.heap.size)) true ts vs ds ps
  | [], [], [], _, _, h, _ => h
  | [], _ :: _, _, _, _, h, _ => h.elim
  | [], [], _ :: _, _, _, h, _ => h.elim
  | _ :: _, [], _, _, _, h, _ => h.elim
  | _ :: _, _ :: _, [], _, _, h, _ => h.elim
  | t :: ts, v :: vs, d :: ds, _, hr, ⟨p, q, h1, h2, h3⟩, hlt => by
    subst h3
    simp only [List.all_cons, Bool.and_eq_true, decide_eq_true_eq] at hr
    exact ⟨p, q, Below.trod hl hr.1.1 hr.1.2 h1 hb (fun x hx => hlt x (List.mem_append.2 (.inl hx))),
      below_trodAll hl hb hr.2 h2 (fun x hx => hlt x (List.mem_append.2 (.inr hx))), rfl⟩
theorem law_post (hl : laidOutB P = true) {f : Func} {s : ChangeSpec} {tb : TypeId} (htb : P.underlying tb = some .bool) {W W' : World} {args : Array Value} {ds gs : List (DataW H)} {before : List MemPlace}
    (hW : DataW.Whole enc P f.params.toList s.vars false W args.toList ds gs before) (hv : s.vars = [])
    (hfn : s.fn H (ds ++ []) = { results := [.lit (.bool true)], args := ds }) (hr : f.resultTypes = #[tb])
    (hp : f.params.toList.all (fun t => P.readableRec t && decide (t < P.types.size)) = true) (hb : Below W.heap.size W W') :
    s.post enc P f false true false false W args (.bool true) W' := by
  have hW' := hW
  obtain ⟨p, q, hA, hV, rfl, _, _⟩ := hW
  have hlt := hW'.lt
  rw [hv] at hV
  obtain ⟨rfl, rfl⟩ := trodVars_none hV
  refine ⟨ds, [], p ++ [], [], p, [], hW', ?_, ?_, ?_, hb.frame _, fun h => by cases h⟩
  · rw [hfn, hr]
    exact trodAll_mk1 (shut_bool htb _)
  · rw [hfn]
    exact below_trodAll hl hb hp hA (fun x hx => hlt x (by simpa using hx))
  · rw [hfn, hv]
    exact rfl
def Takes (d : DataW H) (c : Nat) : Prop := d = .nil ∧ c = 0 ∨ ∃ el sp, d = .slice el sp ∧ el.length + sp.length = c
theorem byte_of {z : Int} (h : (Lit.int .u8 z).wf = true) : ((UInt8.ofNat z.toNat).toNat : Int) = z := by
  have hb : 0 ≤ z ∧ z < 256 := by
    simp [Lit.wf, IntKind.min, IntKind.max, IntKind.signed, IntKind.bits] at h
    omega
  rw [UInt8.toNat_ofNat']
  omega
theorem open_bytesQ {t e : TypeId} (hts : P.underlying t = some (.slice e)) (hte : P.underlying e = some (.int .u8)) (htc : P.cellsOf e = 1) {W : World} {A : Option Addr} {n c fuel : Nat} {d : DataW H} {p : List MemPlace}
    (hf : DataW.trod enc P W 0 (fun _ => true) true fuel t [.slice A n c] = some (d, p)) : ∃ l, At W 1 e8 A n c l ∧ Takes d c := by
  rcases open_ints hts hte htc hf with ⟨hcs, hx⟩ | ⟨a, len, cap, zs, hcs, _, hl, hm, hz, hx, hcell, hwz⟩
  · simp at hcs
    obtain ⟨rfl, rfl, rfl⟩ := hcs
    simp only [Prod.mk.injEq] at hx
    exact ⟨[], At.nil _ _ _, .inl ⟨hx.1, rfl⟩⟩
  · simp at hcs
    obtain ⟨rfl, rfl, rfl⟩ := hcs
    simp only [Prod.mk.injEq] at hx
    simp only [if_true] at hz
    refine ⟨(zs.take n).map fun z => UInt8.ofNat z.toNat, ⟨by simp; omega, hl, hm, fun h => (by cases h), fun k x hxx => ?_⟩, .inr ⟨_, _, hx.1, by simp [lits]; omega⟩⟩
    have hk : k < n := by
      have := (List.getElem?_eq_some_iff.1 hxx).1
      simp at this; omega
    have hc := hcell k (by omega)
    obtain ⟨b, off, spot⟩ := a
    have hs : spot = none := by
      have h3 : ((⟨b, off, spot⟩ : Addr).add 0) = ⟨b, off, spot⟩ := by unfold Addr.add; rfl
      have h4 := hcell 0 (by omega)
      rw [h3] at h4
      exact cell_spot h4
    subst hs
    refine ⟨b, off, rfl, fun j u hu => ?_⟩
    match j, hu with
    | j + 1, hu => simp at hu
    | 0, hu =>
      simp at hu; subst hu
      have hkz : k < zs.length := by omega
      have hx2 : x = UInt8.ofNat (zs[k]).toNat := by
        rw [List.getElem?_map, List.getElem?_take_of_lt hk, List.getElem?_eq_getElem hkz] at hxx
        simpa using hxx.symm
      rw [Addr.add_lit] at hc
      rw [show off + k * 1 + 0 = off + k by omega, hc, hx2]
      have hb := byte_of (hwz (zs[k]) (List.getElem_mem hkz))
      show some (Value.int .u8 (zs.getD k 0)) = some (Value.int .u8 _)
      rw [hb]
      simp [List.getD, List.getElem?_eq_getElem hkz]
theorem open_bytesP {t e : TypeId} (hts : P.underlying t = some (.slice e)) (hte : P.underlying e = some (.int .u8)) (htc : P.cellsOf e = 1) {W : World} {base : Nat} {v : Value} {d : DataW H} {p : List MemPlace} (hv : Value.okWide P W .any base t v)
    (h : DataW.Trod enc P W 0 (fun _ => true) true t v d p) : ∃ A n c l, v = .slice A n c ∧ At W 1 e8 A n c l ∧ Takes d c := by
  obtain ⟨A, n, c, rfl⟩ := okWide_slice hts hv
  obtain ⟨fuel, hf⟩ := h
  obtain ⟨l, h1, h2⟩ := open_bytesQ hts hte htc (by simpa [Value.cells] using hf)
  exact ⟨A, n, c, l, rfl, h1, h2⟩
theorem reach_of {t e : TypeId} (hts : P.underlying t = some (.slice e)) {ts : List TypeId} {ds : List (DataW H)} (hsz : (DataW.weightsEach P ts ds).all (· ≤ reachBytes) = true) (j : Nat) (ht : ts[j]? = some t) {d : DataW H} (hd : ds[j]? = some d) {n c : Nat} (h : Takes d c) (hn : n ≤ c) :
    n * P.bytesOf e ≤ 140737488351232 := by
  rcases h with ⟨_, hc⟩ | ⟨el, sp, rfl, hc⟩
  · have : n = 0 := by omega
    subst this; omega
  · have h1 := sized_slice hsz (e := e) ht hd hts
    simp only [reachBytes] at h1
    have h2 : n * P.bytesOf e ≤ (el.length + sp.length) * P.bytesOf e := Nat.mul_le_mul_right _ (by omega)
    omega
end
theorem Try.cells5 : Try.prog.cellsOf 5 = 1 := by kernel_rfl
section
variable {H : Type} {enc : TypeId × Value → H}
end
end Go.Proofs.Ytkbmgakehlmcnaa
namespace Go.Proofs.Ytkbmgakehlmcnaa
open Go.ChangeShapes Go.WideShapes Go.ChangeAt Go.RowKit Go.Joins Go.Deep
theorem wf_i64 {x : Int} (h : (Lit.int .i64 x).wf = true) : -9223372036854775808 ≤ x ∧ x ≤ 9223372036854775807 := by
  simp [Lit.wf, IntKind.min, IntKind.max, IntKind.signed, IntKind.bits] at h
  omega
theorem At.of_key {α : Type} {w : World} {sz n c : Nat} {enc : α → List Value} {good : α → Prop} {b off : Nat} (hnc : n ≤ c) (hm : c ≤ maxLen)
    (key : ∀ i, i < n → ∃ x, good x ∧ ∀ (j : Nat) (u : Value), (enc x)[j]? = some u → w.cell? ⟨b, off + i * sz + j, none⟩ = some u) :
    ∃ l, At w sz enc (some ⟨b, off, none⟩) n c l ∧ ∀ x ∈ l, good x := by
  have h : ∀ m, m ≤ n → ∃ l : List α, l.length = m ∧ (∀ x ∈ l, good x) ∧ ∀ (k : Nat) (x : α), l[k]? = some x → ∀ (j : Nat) (u : Value), (enc x)[j]? = some u → w.cell? ⟨b, off + k * sz + j, none⟩ = some u := by
    intro m
    induction m with
    | zero => exact fun _ => ⟨[], rfl, fun x hx => by simp at hx, fun k x hx => by simp at hx⟩
    | succ m ih =>
      intro hmn
      obtain ⟨l, h1, h2, h3⟩ := ih (by omega)
      obtain ⟨x, hx, hc⟩ := key m (by omega)
      refine ⟨l ++ [x], by simp [h1], fun y hy => ?_, fun k y hy => ?_⟩
      · rcases List.mem_append.1 hy with h | h
        · exact h2 y h
        · simp at h; subst h; exact hx
      · by_cases hk : k < l.length
        · rw [List.getElem?_append_left hk] at hy
          exact h3 k y hy
        · have hlt : k < (l ++ [x]).length := (List.getElem?_eq_some_iff.1 hy).1
          simp at hlt
          obtain rfl : k = l.length := by omega
          simp at hy; subst hy
          rw [h1]; exact hc
  obtain ⟨l, h1, h2, h3⟩ := h n (Nat.le_refl _)
  exact ⟨l, ⟨h1, hnc, hm, fun h => (by cases h), fun k x hx => ⟨b, off, rfl, fun j u hu => h3 k x hx j u hu⟩⟩, h2⟩
section
variable {H : Type} {enc : TypeId × Value → H} {P : Program}
theorem open_structsQ {α : Type} {en : α → List Value} {good : α → Prop} {sz : Nat} {t e : TypeId} {fs : Array Field} (hts : P.underlying t = some (.slice e)) (hte : P.underlying e = some (.struct fs))
    (hone : oneCellFields P fs = true) (hC : P.cellsOf e = sz) (hfs : fs.size = sz) (hz : 0 < sz) {W : World}
    (dec : ∀ (cs : List Value) (n : Nat), cs.length = sz → (∀ (j : Nat) (f : Field), fs[j]? = some f → ∃ v y, cs[j]? = some v ∧ DataW.trod enc P W 0 (fun _ => true) true n f.type [v] = some y) → ∃ x : α, good x ∧ en x = cs)
    {A : Option Addr} {n c fuel : Nat} {d : DataW H} {p : List MemPlace} (hf : DataW.trod enc P W 0 (fun _ => true) true fuel t [.slice A n c] = some (d, p)) :
    ∃ l, At W sz en A n c l ∧ (∀ x ∈ l, good x) ∧ Takes d c := by
  rcases open_slice hts hf with ⟨hcs, hx⟩ | ⟨a, len, cap, m, k, D, Pl, hcs, _, hl, hm, hmm, hx, hi⟩
  · simp at hcs
    obtain ⟨rfl, rfl, rfl⟩ := hcs
    simp only [Prod.mk.injEq] at hx
    exact ⟨[], At.nil _ _ _, fun x hx => by simp at hx, .inl ⟨hx.1, rfl⟩⟩
  · simp at hcs
    obtain ⟨rfl, rfl, rfl⟩ := hcs
    simp only [Prod.mk.injEq] at hx
    simp only [if_true] at hmm
    subst hmm
    have hT : Takes d m := .inr ⟨_, _, hx.1, by simp; omega⟩
    rcases Nat.eq_zero_or_pos m with h0 | h0
    · subst h0
      obtain rfl : n = 0 := by omega
      exact ⟨[], ⟨rfl, Nat.le_refl _, hm, fun h => (by cases h), fun k x hx => by simp at hx⟩, fun x hx => by simp at hx, hT⟩
    · have hsz0 : ∀ i, i < m → ∃ cs', (∀ j, j < sz → W.cell? ((a.add (i * sz)).add j) = cs'[j]?) ∧ cs'.length = sz ∧ ∃ x, good x ∧ en x = cs' := by
        intro i him
        obtain ⟨cs', hc, ht'⟩ := hi i him
        rw [hC] at hc
        obtain ⟨_, hcl, hat⟩ := World.cells?_some hc
        obtain ⟨ys, n', hn', hy, hlen, hyl, hff⟩ := DataW.trod_struct hte ht'
        refine ⟨cs', hat, hcl, dec cs' n' hcl fun j f hj => ?_⟩
        obtain ⟨ho, hk⟩ := hone_of hone j f hj
        have hjl : j < fs.size := (Array.getElem?_eq_some_iff.1 hj).1
        have h1 := hff j f hj
        rw [ho, hk] at h1
        have h2 : (cs'.drop j).take 1 = [cs'[j]'(by omega)] := by
          rw [List.drop_eq_getElem_cons (by omega)]; rfl
        rw [h2] at h1
        exact ⟨_, _, List.getElem?_eq_getElem (by omega), h1.trans (List.getElem?_eq_getElem (by omega))⟩
      obtain ⟨b, off, spot⟩ := a
      have hs : spot = none := by
        obtain ⟨cs', h1, h2, _⟩ := hsz0 0 h0
        have h3 := h1 0 hz
        rw [List.getElem?_eq_getElem (by omega)] at h3
        have h4 : (((⟨b, off, spot⟩ : Addr).add (0 * sz)).add 0) = ⟨b, off, spot⟩ := by rw [Nat.zero_mul]; unfold Addr.add; rfl
        rw [h4] at h3
        exact cell_spot h3
      subst hs
      obtain ⟨l, h1, h2⟩ := At.of_key (w := W) (sz := sz) (enc := en) (good := good) (b := b) (off := off) hl hm (fun i hin => by
        obtain ⟨cs', g1, g2, x, hx, he⟩ := hsz0 i (by omega)
        refine ⟨x, hx, fun j u hu => ?_⟩
        have hj : j < sz := by
          have := (List.getElem?_eq_some_iff.1 hu).1
          rw [he] at this; omega
        have := g1 j hj
        rw [add_of_add, Addr.add_lit] at this
        rw [show off + i * sz + j = off + (i * sz + j) by omega, this, ← he, hu])
      exact ⟨l, h1, h2, hT⟩
def ok2 (x : Int × Int) : Prop := (-9223372036854775808 ≤ x.1 ∧ x.1 ≤ 9223372036854775807) ∧ (-9223372036854775808 ≤ x.2 ∧ x.2 ≤ 9223372036854775807)
theorem fldInt {W : World} {t : TypeId} {n : Nat} {v : Value} {y : DataW H × List MemPlace} (ht : P.underlying t = some (.int .i64)) (h : DataW.trod enc P W 0 (fun _ => true) true n t [v] = some y) :
    ∃ x, v = .int .i64 x ∧ (-9223372036854775808 ≤ x ∧ x ≤ 9223372036854775807) := by
  obtain ⟨x, hv, _, hw⟩ := DataW.trod_int ht h
  injection hv with hv _
  exact ⟨x, hv, wf_i64 hw⟩
end
end Go.Proofs.Ytkbmgakehlmcnaa
namespace Go.Proofs.Ytkbmgakehlmcnaa
open Go.ChangeShapes Go.WideShapes Go.ChangeAt Go.RowKit Go.Joins
section
variable {H : Type} {enc : TypeId × Value → H} {P : Program} {w : World} {base : Nat} {spare : Nat → Bool} {held : Bool}
end
section
variable {H : Type} {enc : TypeId × Value → H} {P : Program} {W : World}
theorem fld_int {t : TypeId} {n : Nat} {v : Value} {y : DataW H × List MemPlace} (ht : P.underlying t = some (.int .i64)) (h : DataW.trod enc P W 0 (fun _ => true) true n t [v] = some y) :
    ∃ x, v = .int .i64 x ∧ (-9223372036854775808 ≤ x ∧ x ≤ 9223372036854775807) := by
  obtain ⟨x, hv, _, hw⟩ := DataW.trod_int ht h
  injection hv with hv _
  exact ⟨x, hv, wf_i64 hw⟩
theorem fld_bytes {t e : TypeId} {n : Nat} {v : Value} {y : DataW H × List MemPlace} (hts : P.underlying t = some (.slice e)) (hte : P.underlying e = some (.int .u8)) (htc : P.cellsOf e = 1)
    (h : DataW.trod enc P W 0 (fun _ => true) true n t [v] = some y) : ∃ A n c l, v = .slice A n c ∧ At W 1 e8 A n c l ∧ Takes y.1 c := by
  have hv : ∃ A n c, v = .slice A n c := by
    rcases open_ints hts hte htc h with ⟨hcs, _⟩ | ⟨a, len, cap, zs, hcs, _⟩
    · injection hcs with hcs _; exact ⟨_, _, _, hcs⟩
    · injection hcs with hcs _; exact ⟨_, _, _, hcs⟩
  obtain ⟨A, k, c, rfl⟩ := hv
  obtain ⟨d, p⟩ := y
  obtain ⟨l, h1, h2⟩ := open_bytesQ hts hte htc h
  exact ⟨A, k, c, l, rfl, h1, h2⟩
end
section
variable {H : Type} {enc : TypeId × Value → H} {W : World} {base : Nat}
set_option maxRecDepth 100000 in
theorem open_rot {v : Value} {d : DataW H} {p : List MemPlace} (hv : Value.okWide Try.prog W .any base 30 v) (h : DataW.Trod enc Try.prog W 0 (fun _ => true) true 30 v d p) :
    ∃ B E L A n c l, v = rotV B E L A n c ∧ (-9223372036854775808 ≤ B ∧ B ≤ 9223372036854775807) ∧ (-9223372036854775808 ≤ E ∧ E ≤ 9223372036854775807) ∧ (-9223372036854775808 ≤ L ∧ L ≤ 9223372036854775807) ∧ At W 1 e8 A n c l := by
  obtain ⟨v0, v1, v2, v3, y0, y1, y2, y3, n, rfl, _, _, h0, h1, h2, h3⟩ := open_agg4 Try.underlying30 (by kernel_rfl) (by kernel_rfl) hv h
  obtain ⟨B, rfl, hB⟩ := fld_int Try.underlying3 h0
  obtain ⟨E, rfl, hE⟩ := fld_int Try.underlying3 h1
  obtain ⟨L, rfl, hL⟩ := fld_int Try.underlying3 h2
  obtain ⟨A, k, c, l, rfl, hA, _⟩ := fld_bytes Try.underlying28 Try.underlying5 Try.cells5 h3
  exact ⟨B, E, L, A, k, c, l, rfl, hB, hE, hL, hA⟩
set_option maxRecDepth 100000 in
theorem open_scheme {v : Value} {d : DataW H} {p : List MemPlace} (hv : Value.okWide Try.prog W .any base 27 v) (h : DataW.Trod enc Try.prog W 0 (fun _ => true) true 27 v d p) :
    ∃ m c s, v = .agg #[.int .i64 m, .int .i64 c, .int .i64 s] ∧ (-9223372036854775808 ≤ m ∧ m ≤ 9223372036854775807) ∧ (-9223372036854775808 ≤ c ∧ c ≤ 9223372036854775807) ∧ (-9223372036854775808 ≤ s ∧ s ≤ 9223372036854775807) := by
  obtain ⟨v0, v1, v2, y0, y1, y2, n, rfl, _, _, h0, h1, h2⟩ := open_agg3 Try.underlying27 (by kernel_rfl) (by kernel_rfl) hv h
  obtain ⟨B, rfl, hB⟩ := fld_int Try.underlying3 h0
  obtain ⟨E, rfl, hE⟩ := fld_int Try.underlying3 h1
  obtain ⟨L, rfl, hL⟩ := fld_int Try.underlying3 h2
  exact ⟨B, E, L, rfl, hB, hE, hL⟩
end
end Go.Proofs.Ytkbmgakehlmcnaa
namespace Go.Proofs.Ytkbmgakehlmcnaa
open Go.ChangeShapes Go.WideShapes Go.ChangeAt Go.RowKit Kc
end Go.Proofs.Ytkbmgakehlmcnaa
