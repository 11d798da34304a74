/-
  The contracts of the reference's New and Join.
-/
import Derived.Test.YtihgidkkdjmlkaaL
namespace Go.Proofs.Ytihgidkkdjmlkaa
open Go.ChangeShapes Go.WideShapes Go.ChangeAt Go.RowKit
set_option linter.unusedVariables false

/-- Whether a number is one of the first sizes. -/
def powB (b : Int) (k : Nat) : Bool := (List.range k).any fun j => decide (((64 * 2 ^ j : Nat) : Int) = b)
theorem powB_succ (b : Int) (k : Nat) : powB b (k + 1) = (powB b k || decide (((64 * 2 ^ k : Nat) : Int) = b)) := by
  unfold powB
  rw [List.range_succ, List.any_append]; simp
theorem powB_all (b : Int) : powB b 15 = true ↔ 0 ≤ b ∧ sizeB b.toNat = true := by
  unfold powB
  rw [List.any_eq_true]
  constructor
  · rintro ⟨j, hj, h⟩
    have hj : j < 15 := by simpa using hj
    have h : ((64 * 2 ^ j : Nat) : Int) = b := of_decide_eq_true h
    refine ⟨by omega, size_pow.2 ⟨6 + j, by omega, by omega, ?_⟩⟩
    rw [Nat.pow_add, ← h, Int.toNat_natCast]
  · rintro ⟨h0, h⟩
    obtain ⟨e, h1, h2, h3⟩ := size_pow.1 h
    refine ⟨e - 6, by simp; omega, decide_eq_true ?_⟩
    have : 2 ^ e = 64 * 2 ^ (e - 6) := by rw [show (64 : Nat) = 2 ^ 6 from rfl, ← Nat.pow_add]; congr 1; omega
    rw [← this, ← h3]; omega
theorem pow_step (k : Nat) (h : k ≤ 15) : 64 * 2 ^ k ≤ 2097152 ∧ (k < 15 → 64 * 2 ^ k ≤ 1048576) ∧ (k = 15 → 64 * 2 ^ k = 2097152) := by
  have a : 2 ^ k ≤ 2 ^ 15 := Nat.pow_le_pow_right (by omega) h
  refine ⟨by omega, fun q => ?_, fun q => by subst q; rfl⟩
  have : 2 ^ k ≤ 2 ^ 14 := Nat.pow_le_pow_right (by omega) (by omega)
  omega
theorem res_put' {w W : World} {N p r c n h : Nat} {seed : Int} {f : Nat → Bool} (hp : N ≤ p) (b : Below N w W) (x : W.heap[p]? = some (.cells #[.int .i64 0, .int .u64 0, .slice none 0 0] 25 (0, 0))) (s : Bools W r n c f) (hr : N ≤ r) :
    Below N w (((W.setCell ⟨p, 0, none⟩ (.int .i64 (h : Nat))).setCell ⟨p, 1, none⟩ (.int .u64 seed)).setCell ⟨p, 2, none⟩ (.slice (some ⟨r, 0, none⟩) n c)) ∧
    (((W.setCell ⟨p, 0, none⟩ (.int .i64 (h : Nat))).setCell ⟨p, 1, none⟩ (.int .u64 seed)).setCell ⟨p, 2, none⟩ (.slice (some ⟨r, 0, none⟩) n c)).heap[p]? = some (.cells #[.int .i64 (h : Nat), .int .u64 seed, .slice (some ⟨r, 0, none⟩) n c] 25 (0, 0)) ∧
    Bools (((W.setCell ⟨p, 0, none⟩ (.int .i64 (h : Nat))).setCell ⟨p, 1, none⟩ (.int .u64 seed)).setCell ⟨p, 2, none⟩ (.slice (some ⟨r, 0, none⟩) n c)) r n c f ∧ N ≤ r := by
  have hne := s.ne_of x (by decide)
  exact ⟨below_put (below_put (below_put b hp _) hp _) hp _, heap_set (heap_set (heap_set x _) _) _, ((s.other hne.symm _).other hne.symm _).other hne.symm _, hr⟩
theorem Bools.zeros {w : World} {n : Nat} (hn : n ≤ maxLen) : Bools (w.alloc (.cells (madeCells #[.bool false] n) 4)) w.heap.size n n (fun _ => false) :=
  ⟨_, heap_new rfl, Nat.le_refl _, hn, by simp [madeCells], fun i hi => by simp [madeCells, hi, Nat.mod_one]⟩
set_option maxRecDepth 100000 in
theorem rnew_ok (n h : Nat) (seed : Int) (h1 : sizeB n = true) (h2 : 1 ≤ h ∧ h ≤ 8) (w : World) :
    Calls Try.prog 9 #[.int .i64 (n : Nat), .int .i64 (h : Nat), .int .u64 seed] w fun e w' => ∃ r, e = .returned (.tuple #[refV (Bl.new n h seed) r n, .int .i64 0]) ∧ Bools w' r n n (fun _ => false) ∧ Below w.heap.size w w' ∧ w.heap.size ≤ r := by
  obtain ⟨h21, h22⟩ := h2
  have hp : powB (n : Int) 15 = true := (powB_all _).2 ⟨by omega, by simpa using h1⟩
  have hn : n ≤ 1048576 := by
    obtain ⟨e, p1, p2, rfl⟩ := size_pow.1 h1
    exact Nat.pow_le_pow_right (n := 2) (j := 20) (by omega) p2
  have hmk := make_bools n hn
  have x0 : (w.alloc (.cells #[.int .i64 0, .int .u64 0, .slice none 0 0] 25)).heap[w.heap.size]? = some (.cells #[.int .i64 0, .int .u64 0, .slice none 0 0] 25 (0, 0)) := heap_new rfl
  have HP := Lib.hid hp
  clear hp h1
  go_enter Try.func9, Try.ntmps9
  go_upto_region 1 with fail
  refine wp_seen (fun W => Below w.heap.size w W ∧ W.heap[w.heap.size]? = some (.cells #[.int .i64 0, .int .u64 0, .slice none 0 0] 25 (0, 0))) ⟨(Below.refl _ _).alloc (Nat.le_refl _) _, x0⟩ ?_
  clear x0
  rintro W ⟨b1, x1⟩
  have hNW := b1.size
  generalize hN : w.heap.size = N at *
  have HN := Lib.hid hN
  clear hN
  go_wp2_with fail
  go_loop [8, 9] (fun a x => ∃ k : Nat, k ≤ 15 ∧ a = .bool (powB (n : Int) k) ∧ x = .int .i64 ((64 * 2 ^ k : Nat) : Int)) (fun _ x => 4194304 - (intOf x).toNat)
  case atStart => exact ⟨0, by omega, rfl, rfl⟩
  case round =>
    obtain ⟨k, hk, rfl, rfl⟩ := hrel
    obtain ⟨q1, q2, q3⟩ := pow_step k hk
    have hsu := powB_succ (n : Int) k
    have hdb : 64 * 2 ^ (k + 1) = 64 * 2 ^ k * 2 := by rw [Nat.pow_succ, Nat.mul_assoc]
    have hpos : 0 < 64 * 2 ^ k := Nat.mul_pos (by omega) (Nat.pow_pos (by omega))
    by_cases hlt : k < 15
    · have q2 := q2 hlt
      clear q3
      have HD := Lib.hid hdb
      clear hdb
      generalize 64 * 2 ^ k = m at *
      have hm : (m : Int) ≤ 1048576 := by omega
      cases hb : powB (n : Int) k with
      | true =>
        rw [hb, Bool.true_or] at hsu
        have HS := Lib.hid hsu
        clear hsu hb
        go_wp2_with fail
        go_round
        case rel => exact ⟨k + 1, by omega, by rw [HS.out], by rw [HD.out]; go_num⟩
        case measure => simp [intOf]; omega
      | false =>
        rw [hb, Bool.false_or] at hsu
        have HS := Lib.hid hsu
        clear hsu hb
        go_wp2_with fail
        go_round
        case rel => exact ⟨k + 1, by omega, by rw [HS.out]; exact congrArg Value.bool (by rw [Bool.eq_iff_iff]; simp), by rw [HD.out]; go_num⟩
        case measure => simp [intOf]; omega
    · obtain rfl : k = 15 := by omega
      have q3 := q3 rfl
      rw [q3]
      clear q2 hdb hsu hpos q1
      rw [HP.out]
      have x2 : (W.alloc (.cells (madeCells #[.bool false] n) 4)).heap[N]? = some (.cells #[.int .i64 0, .int .u64 0, .slice none 0 0] 25 (0, 0)) := heap_alloc x1 _
      have n0 : (W.alloc (.cells (madeCells #[.bool false] n) 4)).cell? ⟨N, 0, none⟩ = some (.int .i64 0) := cell_of x2 0
      have n1 : (W.alloc (.cells (madeCells #[.bool false] n) 4)).cell? ⟨N, 1, none⟩ = some (.int .u64 0) := cell_of x2 1
      have n2 : (W.alloc (.cells (madeCells #[.bool false] n) 4)).cell? ⟨N, 2, none⟩ = some (.slice none 0 0) := cell_of x2 2
      have g0 := frozen_of x2 0
      have g1 := frozen_of x2 1
      have g2 := frozen_of x2 2
      have zf := res_put' (h := h) (seed := seed) (Nat.le_refl N) (b1.alloc hNW (.cells (madeCells #[.bool false] n) 4)) x2 (Bools.zeros (by unfold maxLen; omega)) hNW
      go_wp2_with fail
      refine post_seen (fun V => Below N w V ∧ V.heap[N]? = some (.cells #[.int .i64 (h : Nat), .int .u64 seed, .slice (some ⟨W.heap.size, 0, none⟩) n n] 25 (0, 0)) ∧ Bools V W.heap.size n n (fun _ => false) ∧ N ≤ W.heap.size) zf ?_
      rintro V ⟨b9, x9, s9, hr9⟩
      have c0 : V.cell? ⟨N, 0, none⟩ = some (.int .i64 (h : Nat)) := cell_of x9 0
      have c1 : V.cell? ⟨N, 1, none⟩ = some (.int .u64 seed) := cell_of x9 1
      have c2 : V.cell? ⟨N, 2, none⟩ = some (.slice (some ⟨W.heap.size, 0, none⟩) n n) := cell_of x9 2
      exact bodyPost_ret (v := .tuple #[.agg #[.int .i64 (h : Nat), .int .u64 seed, .slice (some ⟨W.heap.size, 0, none⟩) n n], .int .i64 0]) (by simp [results, Try.results9, go_sem, c0, c1, c2]) rfl ⟨W.heap.size, rfl, s9, by rw [HN.out]; exact b9, by rw [HN.out]; exact hr9⟩
set_option maxRecDepth 100000 in
theorem rnew_no (n h : Int) (seed : Int) (h1 : 0 ≤ n → sizeB n.toNat = true → h < 1 ∨ 8 < h) (w : World) :
    Calls Try.prog 9 #[.int .i64 n, .int .i64 h, .int .u64 seed] w fun e w' => e = .returned (.tuple #[.agg #[.int .i64 0, .int .u64 0, .slice none 0 0], .int .i64 2]) ∧ Below w.heap.size w w' := by
  have hp : powB n 15 = true → h < 1 ∨ 8 < h := fun q => h1 ((powB_all _).1 q).1 ((powB_all _).1 q).2
  have x0 : (w.alloc (.cells #[.int .i64 0, .int .u64 0, .slice none 0 0] 25)).heap[w.heap.size]? = some (.cells #[.int .i64 0, .int .u64 0, .slice none 0 0] 25 (0, 0)) := heap_new rfl
  have HP := Lib.hid hp
  clear hp h1
  go_enter Try.func9, Try.ntmps9
  go_upto_region 1 with fail
  refine wp_seen (fun W => Below w.heap.size w W ∧ W.heap[w.heap.size]? = some (.cells #[.int .i64 0, .int .u64 0, .slice none 0 0] 25 (0, 0))) ⟨(Below.refl _ _).alloc (Nat.le_refl _) _, x0⟩ ?_
  clear x0
  rintro W ⟨b1, x1⟩
  have hNW := b1.size
  generalize hN : w.heap.size = N at *
  have HN := Lib.hid hN
  clear hN
  go_wp2_with fail
  go_loop [8, 9] (fun a x => ∃ k : Nat, k ≤ 15 ∧ a = .bool (powB n k) ∧ x = .int .i64 ((64 * 2 ^ k : Nat) : Int)) (fun _ x => 4194304 - (intOf x).toNat)
  case atStart => exact ⟨0, by omega, rfl, rfl⟩
  case round =>
    obtain ⟨k, hk, rfl, rfl⟩ := hrel
    obtain ⟨q1, q2, q3⟩ := pow_step k hk
    have hsu := powB_succ n k
    have hdb : 64 * 2 ^ (k + 1) = 64 * 2 ^ k * 2 := by rw [Nat.pow_succ, Nat.mul_assoc]
    have hpos : 0 < 64 * 2 ^ k := Nat.mul_pos (by omega) (Nat.pow_pos (by omega))
    by_cases hlt : k < 15
    · have q2 := q2 hlt
      clear q3
      have HD := Lib.hid hdb
      clear hdb
      generalize 64 * 2 ^ k = m at *
      have hm : (m : Int) ≤ 1048576 := by omega
      cases hb : powB n k with
      | true =>
        rw [hb, Bool.true_or] at hsu
        have HS := Lib.hid hsu
        clear hsu hb
        go_wp2_with fail
        go_round
        case rel => exact ⟨k + 1, by omega, by rw [HS.out], by rw [HD.out]; go_num⟩
        case measure => simp [intOf]; omega
      | false =>
        rw [hb, Bool.false_or] at hsu
        have HS := Lib.hid hsu
        clear hsu hb
        go_wp2_with fail
        go_round
        case rel => exact ⟨k + 1, by omega, by rw [HS.out]; exact congrArg Value.bool (by rw [Bool.eq_iff_iff]; simp), by rw [HD.out]; go_num⟩
        case measure => simp [intOf]; omega
    · obtain rfl : k = 15 := by omega
      have q3 := q3 rfl
      rw [q3]
      clear q2 hdb hsu hpos q1
      have n0 : W.cell? ⟨N, 0, none⟩ = some (.int .i64 0) := cell_of x1 0
      have n1 : W.cell? ⟨N, 1, none⟩ = some (.int .u64 0) := cell_of x1 1
      have n2 : W.cell? ⟨N, 2, none⟩ = some (.slice none 0 0) := cell_of x1 2
      have g0 := frozen_of x1 0
      have g1 := frozen_of x1 1
      have g2 := frozen_of x1 2
      have zf : Below N w (((W.setCell ⟨N, 0, none⟩ (.int .i64 0)).setCell ⟨N, 1, none⟩ (.int .u64 0)).setCell ⟨N, 2, none⟩ (.slice none 0 0)) ∧ (((W.setCell ⟨N, 0, none⟩ (.int .i64 0)).setCell ⟨N, 1, none⟩ (.int .u64 0)).setCell ⟨N, 2, none⟩ (.slice none 0 0)).heap[N]? = some (.cells #[.int .i64 0, .int .u64 0, .slice none 0 0] 25 (0, 0)) :=
        ⟨below_put (below_put (below_put b1 (Nat.le_refl _) _) (Nat.le_refl _) _) (Nat.le_refl _) _, heap_set (heap_set (heap_set x1 _) _) _⟩
      have hp := HP.out
      clear HP
      cases hb : powB n 15
      · rw [hb] at hp
        clear hp
        go_wp2_with fail
        refine post_seen (fun V => Below N w V ∧ V.heap[N]? = some (.cells #[.int .i64 0, .int .u64 0, .slice none 0 0] 25 (0, 0))) zf ?_
        rintro V ⟨b9, x9⟩
        have c0 : V.cell? ⟨N, 0, none⟩ = some (.int .i64 0) := cell_of x9 0
        have c1 : V.cell? ⟨N, 1, none⟩ = some (.int .u64 0) := cell_of x9 1
        have c2 : V.cell? ⟨N, 2, none⟩ = some (.slice none 0 0) := cell_of x9 2
        exact bodyPost_ret (v := .tuple #[.agg #[.int .i64 0, .int .u64 0, .slice none 0 0], .int .i64 2]) (by simp [results, Try.results9, go_sem, c0, c1, c2]) rfl ⟨rfl, by rw [HN.out]; exact b9⟩
      · have hp := hp hb
        clear hb
        rcases hp with hp | hp
        · go_wp2_with fail
          refine post_seen (fun V => Below N w V ∧ V.heap[N]? = some (.cells #[.int .i64 0, .int .u64 0, .slice none 0 0] 25 (0, 0))) zf ?_
          rintro V ⟨b9, x9⟩
          have c0 : V.cell? ⟨N, 0, none⟩ = some (.int .i64 0) := cell_of x9 0
          have c1 : V.cell? ⟨N, 1, none⟩ = some (.int .u64 0) := cell_of x9 1
          have c2 : V.cell? ⟨N, 2, none⟩ = some (.slice none 0 0) := cell_of x9 2
          exact bodyPost_ret (v := .tuple #[.agg #[.int .i64 0, .int .u64 0, .slice none 0 0], .int .i64 2]) (by simp [results, Try.results9, go_sem, c0, c1, c2]) rfl ⟨rfl, by rw [HN.out]; exact b9⟩
        · have hp2 : ¬ h < 1 := by omega
          go_wp2_with fail
          refine post_seen (fun V => Below N w V ∧ V.heap[N]? = some (.cells #[.int .i64 0, .int .u64 0, .slice none 0 0] 25 (0, 0))) zf ?_
          rintro V ⟨b9, x9⟩
          have c0 : V.cell? ⟨N, 0, none⟩ = some (.int .i64 0) := cell_of x9 0
          have c1 : V.cell? ⟨N, 1, none⟩ = some (.int .u64 0) := cell_of x9 1
          have c2 : V.cell? ⟨N, 2, none⟩ = some (.slice none 0 0) := cell_of x9 2
          exact bodyPost_ret (v := .tuple #[.agg #[.int .i64 0, .int .u64 0, .slice none 0 0], .int .i64 2]) (by simp [results, Try.results9, go_sem, c0, c1, c2]) rfl ⟨rfl, by rw [HN.out]; exact b9⟩
end Go.Proofs.Ytihgidkkdjmlkaa
