/-
  The contracts of the law's first, few, own and example.
-/
import Derived.Test.YteibleghnadelaaQ
namespace Go.Proofs.Yteibleghnadelaa
open Go.ChangeShapes Go.WideShapes Go.ChangeAt Go.RowKit
set_option linter.unusedVariables false

theorem few_is {s1 s2 : Option Addr} {n1 c1 n2 c2 : Nat} (w : World) (h1 : n1 ≤ 60) (h2 : n2 ≤ 60) :
    Calls Try.prog 7 #[.agg #[.slice s1 n1 c1, .slice s2 n2 c2]] w fun e w' => e = .returned (.bool true) ∧ Below w.heap.size w w' := by
  have hd : decide ((n2 : Int) ≤ 60) = true := decide_eq_true (by omega)
  go_enter Try.func7, Try.ntmps7
  go_wp2_with fail
  go_ret
  exact ⟨rfl, (Below.refl _ _).alloc (Nat.le_refl _) _⟩
theorem few_not {s1 s2 : Option Addr} {n1 c1 n2 c2 : Nat} (w : World) (h : ¬ (n1 ≤ 60 ∧ n2 ≤ 60)) :
    Calls Try.prog 7 #[.agg #[.slice s1 n1 c1, .slice s2 n2 c2]] w fun e w' => e = .returned (.bool false) ∧ Below w.heap.size w w' := by
  by_cases h1 : n1 ≤ 60
  · have h2 : ¬ (n2 ≤ 60) := fun q => h ⟨h1, q⟩
    have hd : decide ((n2 : Int) ≤ 60) = false := decide_eq_false (by omega)
    go_enter Try.func7, Try.ntmps7
    go_wp2_with fail
    go_ret
    exact ⟨rfl, (Below.refl _ _).alloc (Nat.le_refl _) _⟩
  · go_enter Try.func7, Try.ntmps7
    go_wp2_with fail
    go_ret
    exact ⟨rfl, (Below.refl _ _).alloc (Nat.le_refl _) _⟩
set_option maxHeartbeats 4000000 in
theorem first_is {s1 s2 : Option Addr} {n1 c1 n2 c2 : Nat} {A B : List Int} {w : World} (hA : Slots w s1 A) (hB : Slots w s2 B) (h1 : A.length = n1) (h2 : B.length = n2) (h3 : n1 ≤ 1000) (h4 : n2 ≤ 1000) :
    Calls Try.prog 18 #[.slice s1 n1 c1, .slice s2 n2 c2] w fun e w' => e = .returned (.int .i64 (firstL A B 0)) ∧ Below w.heap.size w w' := by
  have H1 := Lib.hid h1
  have H2 := Lib.hid h2
  clear h1 h2
  go_enter Try.func18, Try.ntmps18
  go_wp2_with fail
  go_loopw [5] (fun x wr => ∃ j : Nat, j ≤ n1 ∧ j ≤ n2 ∧ x = .int .i64 (j : Nat) ∧ A.take j = B.take j ∧ Below w.heap.size w wr ∧ Slots wr s1 A ∧ Slots wr s2 B) (fun x _ => n1 + 1 - (intOf x).toNat)
  case atStart => exact ⟨0, by omega, by omega, rfl, by simp, Below.refl _ _, hA, hB⟩
  case round =>
    obtain ⟨j, hj, hj2, rfl, heq, bw, e1, e2⟩ := hrel
    have hfa := firstL_at heq (by rw [H1.out]; exact hj) (by rw [H2.out]; exact hj2)
    rw [H1.out, H2.out] at hfa
    have Hfa := Lib.hid hfa
    have Heq := Lib.hid heq
    clear heq hA hB hfa
    by_cases hjn : j < n1
    · by_cases hjn2 : j < n2
      · obtain ⟨a, ha⟩ : ∃ a, A[j]? = some a := ⟨_, List.getElem?_eq_getElem (by rw [H1.out]; omega)⟩
        obtain ⟨a2, ha2⟩ : ∃ a2, B[j]? = some a2 := ⟨_, List.getElem?_eq_getElem (by rw [H2.out]; omega)⟩
        obtain ⟨g1, o1, rfl, _, p1⟩ := e1.get ha
        obtain ⟨g2, o2, rfl, _, p2⟩ := e2.get ha2
        have Ha := Lib.hid ha
        have Ha2 := Lib.hid ha2
        clear ha ha2
        have q1 : ¬ ((n1 : Int) ≤ (j : Int)) := by omega
        have q2 : ¬ ((n2 : Int) ≤ (j : Int)) := by omega
        by_cases hab : a = a2
        · subst hab
          go_upto_region 4 with fail
          go_region
          go_wp2_with fail
          go_roundw
          case rel => exact ⟨j + 1, by omega, by omega, by go_num, take_succ_eq Heq.out Ha.out Ha2.out, bw.drew, e1, e2⟩
          all_goals (simp [intOf]; omega)
        · have hab2 : (a == a2) = false := beq_false_of_ne hab
          have hr : firstL A B 0 = j := Hfa.out.2.2.2 a a2 Ha.out Ha2.out hab
          have Hr := Lib.hid hr
          clear hr
          go_upto_region 4 with fail
          go_region
          go_wp2_with fail
          go_ret
          exact ⟨by rw [Hr.out]; rfl, bw.drew⟩
      · obtain rfl : n2 = j := by omega
        have hr : firstL A B 0 = n2 := Hfa.out.2.2.1 ⟨hjn, rfl⟩
        have Hr := Lib.hid hr
        clear hr
        have q1 : ¬ ((n1 : Int) ≤ (n2 : Int)) := by omega
        go_upto_region 4 with fail
        go_region
        go_wp2_with fail
        go_ret
        exact ⟨by rw [Hr.out]; rfl, bw.drew⟩
    · obtain rfl : n1 = j := by omega
      by_cases hjn2 : n1 < n2
      · have hr : firstL A B 0 = n1 := Hfa.out.2.1 ⟨rfl, hjn2⟩
        have Hr := Lib.hid hr
        clear hr
        go_upto_region 4 with fail
        go_region
        go_wp2_with fail
        go_ret
        exact ⟨by rw [Hr.out]; rfl, bw.drew⟩
      · have hr : firstL A B 0 = -1 := Hfa.out.1 ⟨rfl, by omega⟩
        have Hr := Lib.hid hr
        clear hr
        go_wp2_with fail
        go_ret
        exact ⟨by rw [Hr.out]; rfl, bw⟩
theorem ents_two {w : World} {B : Nat} {x y : Int × Int} {t : TypeId} (h : w.heap[B]? = some (.cells #[.int .u32 x.1, .int .i64 x.2, .int .u32 y.1, .int .i64 y.2] t (0, 0))) : Ents w (some ⟨B, 0, none⟩) [x, y] := fun _ => ⟨B, 0, rfl, lt_of_heap h, fun i z hz => by
  match i, hz with
  | 0, hz =>
    obtain rfl : x = z := by simpa using hz
    exact ⟨cell_of h 0, cell_of h 1⟩
  | 1, hz =>
    obtain rfl : y = z := by simpa using hz
    exact ⟨cell_of h 2, cell_of h 3⟩⟩
theorem example_is (w : World) : Calls Try.prog 22 #[] w fun e w' => ∃ g1 g2, e = .returned (.agg #[.slice (some ⟨g1, 0, none⟩) 2 2, .slice (some ⟨g2, 0, none⟩) 2 2]) ∧ Ents w' (some ⟨g1, 0, none⟩) [(1, 4), (2, 5)] ∧ Ents w' (some ⟨g2, 0, none⟩) [(3, 6), (9, 1)] ∧ Below w.heap.size w w' := by
  go_enter Try.func22, Try.ntmps22
  go_wp2_with fail
  refine post_seen (fun W => Below w.heap.size w W ∧ W.heap[w.heap.size]? = some (.cells #[.slice (some ⟨w.heap.size + 1, 0, none⟩) 2 2, .slice (some ⟨w.heap.size + 1 + 1, 0, none⟩) 2 2] 24 (0, 0)) ∧ Ents W (some ⟨w.heap.size + 1, 0, none⟩) [(1, 4), (2, 5)] ∧ Ents W (some ⟨w.heap.size + 1 + 1, 0, none⟩) [(3, 6), (9, 1)]) ⟨?_, heap_alloc (heap_alloc (heap_new rfl) _) _, ents_two (heap_alloc (heap_new (by simp)) _), ents_two (heap_new (by simp))⟩ ?_
  · exact (((Below.refl _ _).alloc (Nat.le_refl _) _).alloc (by simp) _).alloc (by simp; omega) _
  · rintro W ⟨bW, h0, e1, e2⟩
    have s0 : W.cell? ⟨w.heap.size, 0, none⟩ = some (.slice (some ⟨w.heap.size + 1, 0, none⟩) 2 2) := cell_of h0 0
    have s1 : W.cell? ⟨w.heap.size, 1, none⟩ = some (.slice (some ⟨w.heap.size + 1 + 1, 0, none⟩) 2 2) := cell_of h0 1
    exact bodyPost_ret (v := .agg #[.slice (some ⟨w.heap.size + 1, 0, none⟩) 2 2, .slice (some ⟨w.heap.size + 1 + 1, 0, none⟩) 2 2]) (by simp [results, Try.results22, go_sem, s0, s1]) rfl ⟨_, _, rfl, e1, e2, bW⟩
end Go.Proofs.Yteibleghnadelaa
