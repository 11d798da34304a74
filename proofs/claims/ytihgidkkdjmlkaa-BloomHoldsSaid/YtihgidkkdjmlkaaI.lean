/-
  The contracts of Copy and Join.
-/
import Derived.Test.YtihgidkkdjmlkaaH
namespace Go.Proofs.Ytihgidkkdjmlkaa
open Go.ChangeShapes Go.WideShapes Go.ChangeAt Go.RowKit
set_option linter.unusedVariables false

section
variable {w W V : World} {p g q p2 g2 q2 : Nat} {K M : Bl}
/-- A filter, and what its pointer's cells hold. -/
def BlC (W : World) (p g q : Nat) (K : Bl) : Prop := IsBl W p g q K ∧ W.cell? ⟨p, 0, none⟩ = some (.int .i64 (K.h : Nat)) ∧ W.cell? ⟨p, 1, none⟩ = some (.int .u64 K.seed) ∧ W.cell? ⟨p, 2, none⟩ = some (.int .u64 K.seed) ∧ W.cell? ⟨p, 3, none⟩ = some (.bool false)
theorem IsBl.c (s : IsBl W p g q K) : BlC W p g q K := ⟨s, s.cells.1, s.cells.2.1, s.cells.2.2.1, s.cells.2.2.2.1⟩
set_option maxRecDepth 100000 in
theorem copy_is (s : IsBl w p g q K) (hK : K.Ok) : Calls Try.prog 26 #[.pointer (some ⟨p, 0, none⟩)] w fun e w' => ∃ p' g', e = .returned (.pointer (some ⟨p', 0, none⟩)) ∧ Below w.heap.size w w' ∧ w.heap.size ≤ p' ∧ w.heap.size ≤ g' ∧ IsBl w' p' g' (K.n / 64) K := by
  go_enter Try.func26, Try.ntmps26
  go_upto_region 3 with (first | (go_at_call 35; refine (zero_is s hK).mono ?_; rintro e w1 ⟨rfl, rfl⟩))
  obtain ⟨c0, c1, c2, c3, c4⟩ := s.cells
  go_region_held3 (fun W => IsBl W p g q K ∧ W.cell? ⟨p, 0, none⟩ = some (.int .i64 (K.h : Nat)) ∧ W.cell? ⟨p, 1, none⟩ = some (.int .u64 K.seed) ∧ W.cell? ⟨p, 2, none⟩ = some (.int .u64 K.seed) ∧ W.cell? ⟨p, 3, none⟩ = some (.bool false)) (first | assumption | exact s.drew.c | exact IsBl.c (IsBl.below s.drew (by assumption)) | exact IsBl.c (IsBl.alloc (IsBl.below s.drew (by assumption)) _)) (first | (go_at_call 24; refine (words_is s.drew hK).mono ?_; rintro e w1 ⟨d, rfl, b1, hd, n1⟩))
  all_goals go_wp2_with fail
  all_goals go_ret
  all_goals exact ⟨w1.heap.size, d, rfl, ((Below.refl _ _).drew.trans b1).alloc b1.size _, b1.size, hd, ⟨heap_new rfl, n1.alloc _⟩⟩
theorem Bl.like_not {K M : Bl} (h : ¬ K.like M = true) : ¬ (K.n = M.n ∧ K.h = M.h ∧ K.seed = M.seed) := fun q => h (by unfold Bl.like; exact decide_eq_true q)
theorem Bl.like_yes {K M : Bl} (h : K.like M = true) : K.n = M.n ∧ K.h = M.h ∧ K.seed = M.seed := by unfold Bl.like at h; exact of_decide_eq_true h
/-- Joined up to a word. -/
def Bl.joinN (K M : Bl) (i : Nat) : Bl := ⟨K.n, K.h, K.seed, fun j => K.b j || (M.b j && decide (j < 64 * i))⟩
theorem Bl.joinN_zero (K M : Bl) : K.joinN M 0 = K := by
  unfold Bl.joinN
  cases K; simp
theorem joinN_word (K M : Bl) (i : Nat) : pack (K.joinN M i).b i = pack K.b i := pack_congr fun j hj => by
  show (K.b (64 * i + j) || (M.b (64 * i + j) && decide (64 * i + j < 64 * i))) = _
  rw [decide_eq_false (by omega)]; simp
theorem joinN_next (K M : Bl) (i : Nat) : pack (K.joinN M (i + 1)).b i = pack K.b i ||| pack M.b i := by
  rw [← pack_or]
  refine pack_congr fun j hj => ?_
  show (K.b (64 * i + j) || (M.b (64 * i + j) && decide (64 * i + j < 64 * (i + 1)))) = _
  rw [decide_eq_true (by omega)]; simp
theorem joinN_other (K M : Bl) (i k : Nat) (h : k ≠ i) : pack (K.joinN M (i + 1)).b k = pack (K.joinN M i).b k := pack_congr fun j hj => by
  show (K.b (64 * k + j) || (M.b (64 * k + j) && decide (64 * k + j < 64 * (i + 1)))) = (K.b (64 * k + j) || (M.b (64 * k + j) && decide (64 * k + j < 64 * i)))
  have : decide (64 * k + j < 64 * (i + 1)) = decide (64 * k + j < 64 * i) := by rw [decide_eq_decide]; omega
  rw [this]
theorem join_or (K M : Bl) (i : Nat) : bits .or .u64 ((pack K.b i : Nat) : Int) ((pack M.b i : Nat) : Int) = ((pack (K.joinN M (i + 1)).b i : Nat) : Int) := by
  rw [u64_or_nat _ _ (pack_lt _ _) (pack_lt _ _), joinN_next]
theorem join_done (K M : Bl) (hK : K.Ok) (i : Nat) (hi : i < K.n / 64) : pack (K.joinN M (K.n / 64)).b i = pack (K.join M).b i := pack_congr fun j hj => by
  show (K.b (64 * i + j) || (M.b (64 * i + j) && decide (64 * i + j < 64 * (K.n / 64)))) = (K.b (64 * i + j) || M.b (64 * i + j))
  rw [decide_eq_true (by omega)]; simp
/-- What Join keeps at each round. -/
structure JoinI (w : World) (p g q p2 g2 q2 : Nat) (K M : Bl) (i : Nat) (W : World) : Prop where
  kp : Keeps [g] w W
  bl : IsBl W p g q (K.joinN M i)
  ot : IsBl W p2 g2 q2 M
theorem JoinI.next {i : Nat} (z : JoinI w p g q p2 g2 q2 K M i W) (h1 : p2 ≠ g) (h2 : g2 ≠ g) : JoinI w p g q p2 g2 q2 K M (i + 1) (W.setCell ⟨g, i, none⟩ (.int .u64 ((pack (K.joinN M (i + 1)).b i : Nat) : Int))) :=
  ⟨z.kp.setCell (.inl (by simp)) _, ⟨heap_other z.bl.obj z.bl.ne _, z.bl.row.set i _ rfl (fun j hj => by show ((pack (K.joinN M (i + 1)).b j : Nat) : Int) = ((pack (K.joinN M i).b j : Nat) : Int); rw [joinN_other _ _ _ _ hj])⟩, z.ot.far h1 h2 _⟩
set_option maxRecDepth 100000 in
theorem join_is (s : IsBl w p g q K) (hK : K.Ok) (t : IsBl w p2 g2 q2 M) (hM : M.Ok) (hl : K.like M = true) (hd : g2 ≠ g) :
    Calls Try.prog 20 #[.pointer (some ⟨p, 0, none⟩), .pointer (some ⟨p2, 0, none⟩)] w fun e w' => e = .returned (.int .i64 0) ∧ Keeps [g] w w' ∧ IsBl w' p g q (K.join M) := by
  obtain ⟨e1, e2, e3⟩ := K.like_yes hl
  have h64 := hK.n64
  obtain ⟨h641, h642, h643⟩ := h64
  have hne : p2 ≠ g := fun e => by
    obtain ⟨cur, hh, _⟩ := s.row
    have := t.obj
    rw [e, hh] at this
    simp at this
  have c0 : w.cell? ⟨p, 0, none⟩ = some (.int .i64 (K.h : Nat)) := s.cells.1
  have c1 : w.cell? ⟨p, 1, none⟩ = some (.int .u64 K.seed) := s.cells.2.1
  have c4 : w.cell? ⟨p, 4, none⟩ = some (.slice (some ⟨g, 0, none⟩) (K.n / 64) q) := s.cells.2.2.2.2
  have d0 : w.cell? ⟨p2, 0, none⟩ = some (.int .i64 (K.h : Nat)) := by rw [e2]; exact t.cells.1
  have d1 : w.cell? ⟨p2, 1, none⟩ = some (.int .u64 K.seed) := by rw [e3]; exact t.cells.2.1
  have d4 : w.cell? ⟨p2, 4, none⟩ = some (.slice (some ⟨g2, 0, none⟩) (K.n / 64) q2) := by rw [e1]; exact t.cells.2.2.2.2
  have hm : K.n / 64 ≤ 16384 := by omega
  have E1 := Lib.hid e1
  clear e1 e2 e3 h643
  go_enter Try.func20, Try.ntmps20
  go_upto_region 3 with (first | (go_at_call 35; (with_reducible refine (zero_is s hK).mono ?_); rintro e w1 ⟨rfl, rfl⟩) | (go_at_call 35; (with_reducible refine (zero_is t hM).mono ?_); rintro e w1 ⟨rfl, rfl⟩))
  go_quiet (fail)
  go_wp2_with fail
  go_loopw [51] (fun x wr => ∃ i : Nat, i ≤ K.n / 64 ∧ x = .int .i64 (i : Nat) ∧ JoinI w p g q p2 g2 q2 K M i wr) (fun x _ => K.n / 64 - (intOf x).toNat)
  case atStart => exact ⟨0, Nat.zero_le _, rfl, ⟨(Keeps.refl _ _).drewN _, by rw [Bl.joinN_zero]; exact ⟨s.obj, s.row⟩, ⟨t.obj, t.row⟩⟩⟩
  case round =>
    obtain ⟨i, hi, rfl, z⟩ := hrel
    clear c0 c1 c4 d0 d1 d4
    by_cases hlt : i < K.n / 64
    · have k4 : wr.cell? ⟨p, 4, none⟩ = some (.slice (some ⟨g, 0, none⟩) (K.n / 64) q) := z.bl.cells.2.2.2.2
      have kw : wr.cell? ⟨g, i, none⟩ = some (.int .u64 ((pack K.b i : Nat) : Int)) := by rw [← joinN_word K M i]; exact z.bl.word hlt
      have kf := z.bl.row.frozen i
      have kv : wr.cell? ⟨g2, i, none⟩ = some (.int .u64 ((pack M.b i : Nat) : Int)) := z.ot.word (by rw [← E1.out]; exact hlt)
      have hlt2 : (i : Int) < (K.n : Int) / 64 := by omega
      have hi2 : i < 16384 := by omega
      have hor := join_or K M i
      go_wp2_with fail
      go_roundw
      case rel => exact ⟨i + 1, by omega, by go_num, z.next hne hd⟩
      all_goals (simp [intOf]; omega)
    · obtain rfl : K.n / 64 = i := by omega
      go_wp2_with fail
      go_ret
      exact ⟨rfl, z.kp, ⟨z.bl.obj, z.bl.row.congr (fun i hi => by show ((pack (K.join M).b i : Nat) : Int) = ((pack (K.joinN M (K.n / 64)).b i : Nat) : Int); rw [join_done K M hK i hi])⟩⟩
set_option maxRecDepth 100000 in
theorem join_no (s : IsBl w p g q K) (hK : K.Ok) (t : IsBl w p2 g2 q2 M) (hM : M.Ok) (hl : ¬ K.like M = true) :
    Calls Try.prog 20 #[.pointer (some ⟨p, 0, none⟩), .pointer (some ⟨p2, 0, none⟩)] w fun e w' => e = .returned (.int .i64 10) ∧ Below w.heap.size w w' := by
  have hl' := K.like_not hl
  have h64 := hK.n64
  obtain ⟨h641, h642, h643⟩ := h64
  have h64' := hM.n64
  obtain ⟨h641', h642', h643'⟩ := h64'
  obtain ⟨c0, c1, _, _, c4⟩ := s.cells
  obtain ⟨d0, d1, _, _, d4⟩ := t.cells
  by_cases e1 : K.n = M.n
  · rw [← e1] at d4
    by_cases e2 : K.h = M.h
    · rw [← e2] at d0
      have e3 : (K.seed == M.seed) = false := by simpa using fun e3 => hl' ⟨e1, e2, e3⟩
      have e3' : ¬ K.seed = M.seed := fun e3 => hl' ⟨e1, e2, e3⟩
      clear hl hl' e1 e2 h643 h643'
      go_enter Try.func20, Try.ntmps20
      go_upto_region 3 with (first | (go_at_call 35; (with_reducible refine (zero_is s hK).mono ?_); rintro e w1 ⟨rfl, rfl⟩) | (go_at_call 35; (with_reducible refine (zero_is t hM).mono ?_); rintro e w1 ⟨rfl, rfl⟩))
      go_quiet (fail)
      go_wp2_with fail
      go_ret
      exact ⟨rfl, ⟨rfl, rfl, rfl, Nat.le_refl _, fun _ _ => rfl⟩⟩
    · have e2' : ¬ (K.h : Int) = (M.h : Int) := by omega
      clear hl hl' e1 h643 h643'
      go_enter Try.func20, Try.ntmps20
      go_upto_region 3 with (first | (go_at_call 35; (with_reducible refine (zero_is s hK).mono ?_); rintro e w1 ⟨rfl, rfl⟩) | (go_at_call 35; (with_reducible refine (zero_is t hM).mono ?_); rintro e w1 ⟨rfl, rfl⟩))
      go_quiet (fail)
      go_wp2_with fail
      go_ret
      exact ⟨rfl, ⟨rfl, rfl, rfl, Nat.le_refl _, fun _ _ => rfl⟩⟩
  · have e4 : ¬ K.n / 64 = M.n / 64 := by omega
    have ha : K.n / 64 ≤ 16384 := by omega
    have hb : M.n / 64 ≤ 16384 := by omega
    have Z1 := zero_is s hK
    have Z2 := zero_is t hM
    clear hl hl' h643 h643' s t hK hM e1 h641 h642 h641' h642'
    generalize K.n / 64 = a at *
    generalize M.n / 64 = b at *
    have e5 : decide (a = b) = false := decide_eq_false e4
    have e6 : (a == b) = false := by simpa using e4
    have e7 : ((a : Int) == (b : Int)) = false := by rw [beq_eq_false_iff_ne]; omega
    have e8 : ((a : Int) != (b : Int)) = true := by rw [bne, e7]; rfl
    go_enter Try.func20, Try.ntmps20
    go_upto_region 3 with (first | (go_at_call 35; (with_reducible refine Z1.mono ?_); rintro e w1 ⟨rfl, rfl⟩) | (go_at_call 35; (with_reducible refine Z2.mono ?_); rintro e w1 ⟨rfl, rfl⟩))
    go_quiet (fail)
    go_wp2_with fail
    go_ret
    exact ⟨rfl, ⟨rfl, rfl, rfl, Nat.le_refl _, fun _ _ => rfl⟩⟩
end
end Go.Proofs.Ytihgidkkdjmlkaa
