/- Walk: the law BoxBytesComeBack over whatever bytes and boxes. Conditions as stated. -/
import Derived.Test.YtoliplgadhdgbaaDoorBpkA
import Derived.Test.YtoliplgadhdgbaaDoorSamB
import Derived.Test.YtoliplgadhdgbaaDoorBoxE
import Derived.Deep.DeepCutAuto
namespace Go.Proofs.YtoliplgadhdgbaaDoor
open Go.RowKit
theorem parse_one {A : Option Addr} {n c : Nat} {b : List UInt8} {w : World} (h : At w 1 e8 A n c b) : Calls Tryd.prog 20 #[.slice A n c] w fun e w' => ∃ N k c2, ∃ pl f : Int, e = .returned (.tuple #[.slice N k c2, .int .i64 pl, .int .i64 f]) ∧ Ext w w' ∧
    (f = 0 → pl = 0 ∧ ∃ ns m, parseF b = .ok ns m ∧ BxsAt w' (fun k => w.heap.size ≤ k ∧ k < w'.heap.size) N k c2 (boxesOf b ns)) ∧ (∀ ns m, parseF b = .ok ns m → f = 0) := by
  refine (keyParse_any h).mono ?_
  intro e w' ⟨h1, h2, h3⟩
  cases hr : parseF b with
  | err a f =>
    have := parseF_err hr
    exact ⟨none, 0, 0, a, f, h2 a f hr, h1, (fun h => by subst h; simp at this), (fun _ _ h => by cases h)⟩
  | ok ns m =>
    obtain ⟨N, c2, he, hx⟩ := h3 ns m hr
    exact ⟨N, _, c2, 0, 0, he, h1, (fun _ => ⟨rfl, ns, m, rfl, hx⟩), (fun _ _ _ => rfl)⟩
/-- What Pack writes. -/
def bkL (l : List BoxT) : List UInt8 := if bfF l = 0 then bytL l else []
theorem pack_one {l : List BoxT} {w : World} {G : Nat → Prop} {A : Option Addr} {n c : Nat} (h : BxsAt w G A n c l) (hb : bndL 140737488355328 l) :
    Calls Tryd.prog 4 #[.slice A n c] w fun e w' => ∃ N c2, e = .returned (.tuple #[.slice N (bkL l).length c2, .int .i64 (bfF l)]) ∧ Ext w w' ∧ At w' 1 e8 N (bkL l).length c2 (bkL l) := by
  refine (keyPack_any h hb).mono ?_
  intro e w' ⟨h1, h2, h3⟩
  by_cases hz : bfF l = 0
  · obtain ⟨v, he, ho⟩ := h3 hz
    obtain ⟨N, c2, rfl, hat⟩ := ho.at_ len_e8
    have hk : bkL l = bytL l := by unfold bkL; rw [if_pos hz]
    rw [hk, hz]
    exact ⟨N, c2, he, h1, hat⟩
  · have hk : bkL l = [] := by unfold bkL; rw [if_neg hz]
    rw [hk]
    exact ⟨none, 0, h2 hz, h1, At.nil _ _ _⟩
theorem bndL_of (D : Nat) (hD : 4 ≤ D) : ∀ (l : List BoxT) (dep c m : Nat), fauL l dep c = (0, m) → (bytL l).length ≤ D → bndL D l
  | [], _, _, _, _, _ => by rw [bndL]; trivial
  | .mk k f d l :: r, dep, c, m, h, hb => by
    obtain ⟨_, h2, m', h3, h4⟩ := fauL_ok h
    have hk := kind_len (elB_ok h2).1
    rw [bytL, bytT, List.length_append, List.length_append, List.length_append] at hb
    rw [bndL]
    exact ⟨by omega, by omega, bndL_of D hD l _ _ m' h3 (by omega), bndL_of D hD r _ _ m h4 (by omega)⟩
/-- Boxes that bytes read as are written as these bytes. -/
theorem parse_pack {b : List UInt8} {ns : List NodeT} {m : Nat} (h : parseF b = .ok ns m) : bndL 140737488355328 (boxesOf b ns) ∧ bfF (boxesOf b ns) = 0 ∧ bkL (boxesOf b ns) = b := by
  unfold parseF at h
  split at h
  · cases h
  have hb : b.length ≤ 1000000 := by omega
  obtain ⟨p1, p2⟩ := par_bytes (b.length + 1) 0 b.length 0 0 m ns (by omega) (by omega) (by omega) h
  rw [cutB_all] at p2
  have p3 := bytL_len _ _ _ _ p1
  rw [p2] at p3
  have h0 : bfF (boxesOf b ns) = 0 := by unfold bfF; rw [p1, if_neg (by simp), if_neg (by omega)]
  exact ⟨bndL_of _ (by omega) _ _ _ _ p1 (by rw [p2]; omega), h0, by unfold bkL; rw [if_pos h0, p2]⟩
/-- Bytes that boxes are written as read as these boxes. -/
theorem pack_parse {l : List BoxT} (h : bfF l = 0) : ∃ ns m, parseF (bkL l) = .ok ns m ∧ boxesOf (bkL l) ns = l := by
  have hk : bkL l = bytL l := by unfold bkL; rw [if_pos h]
  obtain ⟨h1, h2, h3⟩ := bfF_zero h
  obtain ⟨ns, q1, q2⟩ := byt_parse (b := bytL l) (by omega) l 0 (bytL l).length 0 0 (fauL l 0 0).2 (by rw [← h1]) (by omega) (by omega) (cutB_all _)
  rw [hk]
  exact ⟨ns, _, by unfold parseF; rw [if_neg (by omega)]; exact q1, q2⟩
end Go.Proofs.YtoliplgadhdgbaaDoor
