/- Words for the rows of this seat: a law that returns true and leaves its arguments; arguments opened as lists. Conditions as stated. -/
import Derived.Test.YtlonhkjplijlcaaRows
import Derived.Test.YtlonhkjplijlcaaMrg00
import Derived.ProofKit
import Derived.Lib.Bytes
namespace Go.Proofs.Ytlonhkjplijlcaa
open Go.ChangeShapes Go.WideShapes Go.ChangeAt Go.RowKit
/-- A row's closed facts, out of the program's and a few of its own. -/
theorem joined_of {P : Program} {f : FuncId} {fn : Func} {s : ChangeSpec} {c : OpenClaim} (p1 : laidOutB P = true) (p2 : mapsRowed P = true) (p3 : P.plainKeys = true) (p4 : P.stopsHeard = true) (p5 : (P.stops == []) = true) (p6 : (P.stopKnobs == []) = true)
    (p7 : P.mayEnter = true) (p8 : P.make = some .cut) (p9 : P.liftsFinal = false) (c1 : c.plainKeys = true) (c2 : c.make = .cut) (c3 : c.lifted = false) (c4 : c.wf (OpenSpec.ofChange s) = true)
    (h1 : (fn.params.all (P.readableRec ·) && namedTie P c.named s.vars && (c.stops == []) && (c.knobs == [])) = true)
    (h2 : (c.inPlace == P.inPlace f) = true) (h3 : (c.unfollowed == P.unfollowed f) = true) (h4 : (c.recurses == P.recurses f) = true) (h5 : (c.named == P.varsNamed f) = true)
    (h6 : ((c.maps == (fn.params.toList ++ s.plain.varTypes P).any (P.mapsRec ·)) && (c.ifaces == (fn.params.toList ++ s.plain.varTypes P).any (P.ifacesRec ·)) && (c.mapsOut == P.mapsAmong fn.resultTypes.toList)) = true)
    (h7 : ((c.loops == (fn.params.toList ++ s.plain.varTypes P).any (P.loopsFrom ·)) && (c.wideKeys == (fn.params.toList ++ s.plain.varTypes P ++ fn.resultTypes.toList).any (P.wideKeysFrom ·))) = true)
    (h8 : (s.vars.all (P.varReadable ·) && fn.resultTypes.all (fun t => P.readableRec t && decide (t < P.types.size)) && (c.ifacesOut == fn.resultTypes.toList.any (P.ifacesRec ·)) && (c.loopsOut == fn.resultTypes.toList.any (P.loopsFrom ·))) = true)
    (h9 : (c.shortTexts.isNone && (c.kinds == (if c.domain.isEmpty then [] else fn.params.toList.map fun t => match P.underlying t with | some (.int k) => some k | _ => none)) && (c.pinned == c.pinnedBy)) = true)
    (h10 : ((c.veiled == (fn.params.toList ++ s.plain.varTypes P ++ fn.resultTypes.toList).any (P.veiledRec ·)) && c.veiledFits P fn.params.toList (fn.params.toList ++ s.plain.varTypes P ++ fn.resultTypes.toList)) = true) :
    joinedFacts P f fn s c = true := by
  simp only [Bool.and_eq_true] at h1 h6 h7 h8 h9 h10
  unfold joinedFacts
  simp only [Bool.and_eq_true]
  have e1 : (c.plainKeys == P.plainKeys) = true := by rw [c1, p3]; rfl
  have e2 : (c.lifted == P.liftsFinal) = true := by rw [c3, p9]; rfl
  have e3 : (P.make == some c.make) = true := by rw [p8, c2]; decide
  refine ⟨⟨⟨⟨⟨⟨⟨⟨⟨⟨⟨⟨⟨⟨⟨⟨⟨⟨⟨⟨⟨⟨⟨⟨⟨⟨⟨⟨⟨⟨⟨c4, p1⟩, p2⟩, h1.1.1.1⟩, h1.1.1.2⟩, h1.1.2⟩, p5⟩, h1.2⟩, p6⟩, h2⟩, h3⟩, h4⟩, h5⟩, h6.1.1⟩, h6.1.2⟩, h6.2⟩, h7.1⟩, h7.2⟩, h8.1.1.1⟩, h8.1.1.2⟩, h8.1.2⟩, h8.2⟩, e1⟩, h9.1.1⟩, p4⟩, p7⟩, e2⟩, e3⟩, h9.1.2⟩, h9.2⟩, h10.1⟩, h10.2⟩

theorem Try.own : ownKnob Try.prog.godebug = none := by kernel_rfl
theorem Try.laidOut : laidOutB Try.prog = true := by kernel_rfl

section
variable {P : Program} {l : List Char}
theorem signs_eq (h : P.initOrder = String.ofList l) : wordsSigns P.initOrder.toList = wordsSigns l := by rw [h, String.toList_ofList]
def headCut (ws : List (List Char)) : Bool :=
  match behindMainWord ws with
  | c :: rest => c == "cut".toList && (c != "gc".toList && c != "spec".toList) && ((stripLifts liftWords (c :: rest)).2.head? == some "cut".toList && (stripLifts liftWords (c :: rest)).1.isEmpty)
  | [] => false
theorem headCut_some {ws : List (List Char)} (h : headCut ws = true) : ∃ c rest, behindMainWord ws = c :: rest ∧ c = "cut".toList ∧ (c == "gc".toList) = false ∧ (c == "spec".toList) = false ∧ (stripLifts liftWords (c :: rest)).2.head? = some "cut".toList ∧ (stripLifts liftWords (c :: rest)).1 = [] := by
  unfold headCut at h
  split at h
  · rename_i c rest hc
    simp only [Bool.and_eq_true, beq_iff_eq, bne_iff_ne, List.isEmpty_iff] at h
    exact ⟨c, rest, hc, h.1.1, by simpa using h.1.2.1, by simpa using h.1.2.2, h.2.1, h.2.2⟩
  · cases h
theorem mayEnter_of (h : P.initOrder = String.ofList l) (hw : headCut (wordsSigns l) = true) (hl : P.laysLater = false) (hb : P.bearsReflect = false) (hd : P.doorFits [] = true) : P.mayEnter = true := by
  obtain ⟨c, rest, h1, h2, h3, h4, h5, h6⟩ := headCut_some hw
  unfold Program.mayEnter
  rw [signs_eq h, h1]
  simp only [h5, h6, hl, hb, hd]
  simp
theorem headLifts_of (h : P.initOrder = String.ofList l) (hw : headCut (wordsSigns l) = true) : P.headLifts = [] := by
  obtain ⟨c, rest, h1, h2, h3, h4, h5, h6⟩ := headCut_some hw
  unfold Program.headLifts
  rw [signs_eq h, h1]
  simp [h5, h6]
theorem make_of (h : P.initOrder = String.ofList l) (hw : headCut (wordsSigns l) = true) : P.make = some .cut := by
  obtain ⟨c, rest, h1, h2, h3, h4, h5, h6⟩ := headCut_some hw
  unfold Program.make
  rw [signs_eq h, h1]
  simp only [h3, h4, Bool.or_self]
  rw [if_neg (by decide), h2]
  simp
theorem liftsFinal_of (h : P.initOrder = String.ofList l) (hw : headCut (wordsSigns l) = true) : P.liftsFinal = false := by
  have hh := headLifts_of h hw
  obtain ⟨c, rest, h1, h2, h3, h4, h5, h6⟩ := headCut_some hw
  unfold Program.liftsFinal
  rw [signs_eq h, h1, hh, h2]
  have e : ("cut".toList == "carried".toList) = false := by decide
  simp
end
set_option maxRecDepth 1000000 in
theorem Try.head : ∃ l, Try.prog.initOrder = String.ofList l ∧ headCut (wordsSigns l) = true := ⟨_, rfl, by kernel_rfl⟩
theorem Try.later : Try.prog.laysLater = false := by kernel_rfl
theorem Try.reflects : Try.prog.bearsReflect = false := by kernel_rfl
theorem Try.door : Try.prog.doorFits [] = true := by kernel_rfl
theorem Try.mayEnter : Try.prog.mayEnter = true := by
  obtain ⟨l, h, hw⟩ := Try.head
  exact mayEnter_of h hw Try.later Try.reflects Try.door
theorem Try.makeCut : Try.prog.make = some .cut := by
  obtain ⟨l, h, hw⟩ := Try.head
  exact make_of h hw
theorem Try.liftsFinal : Try.prog.liftsFinal = false := by
  obtain ⟨l, h, hw⟩ := Try.head
  exact liftsFinal_of h hw
theorem Try.mapsRowed : mapsRowed Try.prog = true := by kernel_rfl
theorem Try.plainKeys : Try.prog.plainKeys = true := by kernel_rfl
theorem Try.stopsHeard : Try.prog.stopsHeard = true := by kernel_rfl
theorem Try.stopsNone : (Try.prog.stops == []) = true := by kernel_rfl
theorem Try.knobsNone : (Try.prog.stopKnobs == []) = true := by kernel_rfl

section
variable {H : Type} {enc : TypeId × Value → H} {P : Program}
/-- Arguments read as before in a world that only adds blocks. -/
theorem below_trodAll (hl : laidOutB P = true) {W W' : World} (hb : Below W.heap.size W W') : ∀ {ts : List TypeId} {vs : List Value} {ds : List (DataW H)} {ps : List MemPlace},
    ts.all (fun t => P.readableRec t && decide (t < P.types.size)) = true → DataW.TrodAll enc P W 0 (fun _ => true) true ts vs ds ps → (∀ x ∈ ps, x.block < W.heap.size) →
    DataW.TrodAll enc P W' 0 (fun b => decide (b < W.heap.size)) true ts vs ds ps
  | [], [], [], _, _, h, _ => h
  | [], _ :: _, _, _, _, h, _ => h.elim
  | [], [], _ :: _, _, _, h, _ => h.elim
  | _ :: _, [], _, _, _, h, _ => h.elim
  | _ :: _, _ :: _, [], _, _, h, _ => h.elim
  | t :: ts, v :: vs, d :: ds, _, hr, ⟨p, q, h1, h2, h3⟩, hlt => by
    subst h3
    simp only [List.all_cons, Bool.and_eq_true, decide_eq_true_eq] at hr
    exact ⟨p, q, Below.trod hl hr.1.1 hr.1.2 h1 hb (fun x hx => hlt x (List.mem_append.2 (.inl hx))),
      below_trodAll hl hb hr.2 h2 (fun x hx => hlt x (List.mem_append.2 (.inr hx))), rfl⟩
/-- The post of a law that returns true. -/
theorem law_post (hl : laidOutB P = true) {f : Func} {s : ChangeSpec} {tb : TypeId} (htb : P.underlying tb = some .bool) {W W' : World} {args : Array Value} {ds gs : List (DataW H)} {before : List MemPlace}
    (hW : DataW.Whole enc P f.params.toList s.vars false W args.toList ds gs before) (hv : s.vars = [])
    (hfn : s.fn H (ds ++ []) = { results := [.lit (.bool true)], args := ds }) (hr : f.resultTypes = #[tb])
    (hp : f.params.toList.all (fun t => P.readableRec t && decide (t < P.types.size)) = true) (hb : Below W.heap.size W W') :
    s.post enc P f false true false false W args (.bool true) W' := by
  have hW' := hW
  obtain ⟨p, q, hA, hV, rfl, _, _⟩ := hW
  have hlt := hW'.lt
  rw [hv] at hV
  obtain ⟨rfl, rfl⟩ := trodVars_none hV
  refine ⟨ds, [], p ++ [], [], p, [], hW', ?_, ?_, ?_, hb.frame _, fun h => by cases h⟩
  · rw [hfn, hr]
    exact trodAll_mk1 (shut_bool htb _)
  · rw [hfn]
    exact below_trodAll hl hb hp hA (fun x hx => hlt x (by simpa using hx))
  · rw [hfn, hv]
    exact rfl

/-- How many elements a datum takes. -/
def Takes (d : DataW H) (c : Nat) : Prop := d = .nil ∧ c = 0 ∨ ∃ el sp, d = .slice el sp ∧ el.length + sp.length = c
theorem byte_of {z : Int} (h : (Lit.int .u8 z).wf = true) : ((UInt8.ofNat z.toNat).toNat : Int) = z := by
  have hb : 0 ≤ z ∧ z < 256 := by
    simp [Lit.wf, IntKind.min, IntKind.max, IntKind.signed, IntKind.bits] at h
    omega
  rw [UInt8.toNat_ofNat']
  omega
/-- An argument of bytes. -/
theorem open_bytesQ {t e : TypeId} (hts : P.underlying t = some (.slice e)) (hte : P.underlying e = some (.int .u8)) (htc : P.cellsOf e = 1) {W : World} {A : Option Addr} {n c fuel : Nat} {d : DataW H} {p : List MemPlace}
    (hf : DataW.trod enc P W 0 (fun _ => true) true fuel t [.slice A n c] = some (d, p)) : ∃ l, At W 1 e8 A n c l ∧ Takes d c := by
  rcases open_ints hts hte htc hf with ⟨hcs, hx⟩ | ⟨a, len, cap, zs, hcs, _, hl, hm, hz, hx, hcell, hwz⟩
  · simp at hcs
    obtain ⟨rfl, rfl, rfl⟩ := hcs
    simp only [Prod.mk.injEq] at hx
    exact ⟨[], At.nil _ _ _, .inl ⟨hx.1, rfl⟩⟩
  · simp at hcs
    obtain ⟨rfl, rfl, rfl⟩ := hcs
    simp only [Prod.mk.injEq] at hx
    simp only [if_true] at hz
    refine ⟨(zs.take n).map fun z => UInt8.ofNat z.toNat, ⟨by simp; omega, hl, hm, fun h => (by cases h), fun k x hxx => ?_⟩, .inr ⟨_, _, hx.1, by simp [lits]; omega⟩⟩
    have hk : k < n := by
      have := (List.getElem?_eq_some_iff.1 hxx).1
      simp at this; omega
    have hc := hcell k (by omega)
    obtain ⟨b, off, spot⟩ := a
    have hs : spot = none := by
      have h3 : ((⟨b, off, spot⟩ : Addr).add 0) = ⟨b, off, spot⟩ := by unfold Addr.add; rfl
      have h4 := hcell 0 (by omega)
      rw [h3] at h4
      exact cell_spot h4
    subst hs
    refine ⟨b, off, rfl, fun j u hu => ?_⟩
    match j, hu with
    | j + 1, hu => simp at hu
    | 0, hu =>
      simp at hu; subst hu
      have hkz : k < zs.length := by omega
      have hx2 : x = UInt8.ofNat (zs[k]).toNat := by
        rw [List.getElem?_map, List.getElem?_take_of_lt hk, List.getElem?_eq_getElem hkz] at hxx
        simpa using hxx.symm
      rw [Addr.add_lit] at hc
      rw [show off + k * 1 + 0 = off + k by omega, hc, hx2]
      have hb := byte_of (hwz (zs[k]) (List.getElem_mem hkz))
      show some (Value.int .u8 (zs.getD k 0)) = some (Value.int .u8 _)
      rw [hb]
      simp [List.getD, List.getElem?_eq_getElem hkz]
theorem open_bytesP {t e : TypeId} (hts : P.underlying t = some (.slice e)) (hte : P.underlying e = some (.int .u8)) (htc : P.cellsOf e = 1) {W : World} {base : Nat} {v : Value} {d : DataW H} {p : List MemPlace} (hv : Value.okWide P W .any base t v)
    (h : DataW.Trod enc P W 0 (fun _ => true) true t v d p) : ∃ A n c l, v = .slice A n c ∧ At W 1 e8 A n c l ∧ Takes d c := by
  obtain ⟨A, n, c, rfl⟩ := okWide_slice hts hv
  obtain ⟨fuel, hf⟩ := h
  obtain ⟨l, h1, h2⟩ := open_bytesQ hts hte htc (by simpa [Value.cells] using hf)
  exact ⟨A, n, c, l, rfl, h1, h2⟩
end
end Go.Proofs.Ytlonhkjplijlcaa
