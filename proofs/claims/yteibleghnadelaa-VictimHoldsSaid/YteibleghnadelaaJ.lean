/-
  The contract of Check.
-/
import Derived.Test.YteibleghnadelaaI
namespace Go.Proofs.Yteibleghnadelaa
open Go.ChangeShapes Go.WideShapes Go.ChangeAt Go.RowKit
set_option linter.unusedVariables false

/-- What Check hands back. -/
def resK (k count bytes : Int) (L : List (Int × Int)) (l : List Int) : Int := if okC count bytes L = true then firstL (resC k count bytes L) l 0 else 0
set_option maxHeartbeats 4000000 in
theorem Check_is {s1 s2 s3 : Option Addr} {n1 c1 n2 c2 n3 c3 : Nat} {k count bytes : Int} {L1 L2 : List (Int × Int)} {l : List Int} {w : World} (hE1 : Ents w s1 L1) (hE2 : Ents w s2 L2) (hE3 : Slots w s3 l) (h1 : L1.length = n1) (h2 : L2.length = n2) (h3 : n1 + n2 ≤ 500) (h4 : l.length = n3) (h5 : n3 ≤ 500) :
    Calls Try.prog 27 #[.slice s1 n1 c1, .slice s2 n2 c2, .int .u32 k, .int .i64 count, .int .i64 bytes, .slice s3 n3 c3] w fun e w' => e = .returned (.tuple #[.int .i64 (resK k count bytes (L1 ++ L2) l), .int .i64 (errC count bytes (L1 ++ L2))]) ∧ Below w.heap.size w w' := by
  have C := Choose_is (c1 := c1) (c2 := c2) (k := k) (count := count) (bytes := bytes) hE1 hE2 h1 h2 h3
  have hwl := resC_length k count bytes (L1 ++ L2)
  have hlen : (L1 ++ L2).length ≤ 500 := by rw [List.length_append, h1, h2]; exact h3
  generalize L1 ++ L2 = L at *
  by_cases hok : okC count bytes L = true
  · rw [show resK k count bytes L l = firstL (resC k count bytes L) l 0 by unfold resK; rw [if_pos hok]]
    rw [show errC count bytes L = 0 by unfold errC; rw [if_pos hok]] at C ⊢
    clear hok
    generalize hR : resC k count bytes L = R at *
    clear hR
    generalize hlR : R.length = lr at *
    have HlR := Lib.hid hlR
    have Hl := Lib.hid h4
    clear hlR h4
    have hlr : lr ≤ 500 := by omega
    clear hwl hlen h3
    go_enter Try.func27, Try.ntmps27
    go_wp2_with (first | (go_at_call 19; refine C.mono ?_; clear C; rintro e w1 ⟨A, n, c, rfl, rfl, o1, b1⟩; have e1 := (Slots.of_owns o1).2; have e3 := hE3.below b1 (Nat.le_refl _)))
    · rename_i h
      clear o1 hE1 hE2 hE3 h1 h2
      go_loopw [34] (fun x wr => ∃ j : Nat, j ≤ n ∧ x = .int .i64 (j : Nat) ∧ R.take j = l.take j ∧ Below w.heap.size w wr ∧ Slots wr A R ∧ Slots wr s3 l) (fun x _ => n + 1 - (intOf x).toNat)
      case atStart => exact ⟨0, by omega, rfl, by simp, b1, e1, e3⟩
      case round =>
        obtain ⟨j, hj, rfl, heq, bw, e1, e3⟩ := hrel
        have hfa := firstL_at heq (by rw [HlR.out]; omega) (by rw [Hl.out]; omega)
        rw [HlR.out, Hl.out] at hfa
        have Hfa := Lib.hid hfa
        have Heq := Lib.hid heq
        clear hfa heq
        by_cases hjm : j < n
        · obtain ⟨a, ha⟩ : ∃ a, R[j]? = some a := ⟨_, List.getElem?_eq_getElem (by rw [HlR.out]; omega)⟩
          obtain ⟨a2, ha2⟩ : ∃ a2, l[j]? = some a2 := ⟨_, List.getElem?_eq_getElem (by rw [Hl.out]; omega)⟩
          obtain ⟨g1, o1, rfl, _, p1⟩ := e1.get ha
          obtain ⟨g2, o2, rfl, _, p2⟩ := e3.get ha2
          have Ha := Lib.hid ha
          have Ha2 := Lib.hid ha2
          clear ha ha2
          have hjm2 : ¬ ((n : Int) ≤ (j : Int)) := by omega
          have hjn : j < n := by omega
          have hjn3 : j < n3 := by omega
          have hjx : (j : Int) < (n3 : Int) := by omega
          by_cases hab : a = a2
          · subst hab
            go_upto_region 7 with fail
            go_region
            go_wp2_with fail
            go_roundw
            case rel => exact ⟨j + 1, by omega, by go_num, take_succ_eq Heq.out Ha.out Ha2.out, bw.drew, e1, e3⟩
            all_goals (simp [intOf]; omega)
          · have hab2 : (a == a2) = false := beq_false_of_ne hab
            have hr : firstL R l 0 = j := Hfa.out.2.2.2 a a2 Ha.out Ha2.out hab
            have Hr := Lib.hid hr
            clear hr
            go_upto_region 7 with fail
            go_region
            go_wp2_with fail
            go_ret2
            exact ⟨by rw [Hr.out]; rfl, bw.drew⟩
        · obtain rfl : n = j := by omega
          by_cases hmx3 : n < n3
          · have hr : firstL R l 0 = n := Hfa.out.2.1 ⟨rfl, by omega⟩
            have Hr := Lib.hid hr
            clear hr
            go_upto_region 7 with fail
            go_region
            go_wp2_with fail
            go_ret2
            exact ⟨by rw [Hr.out]; rfl, bw.drew⟩
          · exact absurd h hmx3
    · rename_i h
      clear o1 hE1 hE2 hE3 h1 h2
      go_loopw [34] (fun x wr => ∃ j : Nat, j ≤ n3 ∧ x = .int .i64 (j : Nat) ∧ R.take j = l.take j ∧ Below w.heap.size w wr ∧ Slots wr A R ∧ Slots wr s3 l) (fun x _ => n3 + 1 - (intOf x).toNat)
      case atStart => exact ⟨0, by omega, rfl, by simp, b1, e1, e3⟩
      case round =>
        obtain ⟨j, hj, rfl, heq, bw, e1, e3⟩ := hrel
        have hfa := firstL_at heq (by rw [HlR.out]; omega) (by rw [Hl.out]; omega)
        rw [HlR.out, Hl.out] at hfa
        have Hfa := Lib.hid hfa
        have Heq := Lib.hid heq
        clear hfa heq
        by_cases hjm : j < n3
        · obtain ⟨a, ha⟩ : ∃ a, R[j]? = some a := ⟨_, List.getElem?_eq_getElem (by rw [HlR.out]; omega)⟩
          obtain ⟨a2, ha2⟩ : ∃ a2, l[j]? = some a2 := ⟨_, List.getElem?_eq_getElem (by rw [Hl.out]; omega)⟩
          obtain ⟨g1, o1, rfl, _, p1⟩ := e1.get ha
          obtain ⟨g2, o2, rfl, _, p2⟩ := e3.get ha2
          have Ha := Lib.hid ha
          have Ha2 := Lib.hid ha2
          clear ha ha2
          have hjm2 : ¬ ((n3 : Int) ≤ (j : Int)) := by omega
          have hjn : j < n := by omega
          have hjn3 : j < n3 := by omega
          have hjx : (j : Int) < (n : Int) := by omega
          by_cases hq : n3 < n
          · by_cases hab : a = a2
            · subst hab
              go_upto_region 7 with fail
              go_region
              go_wp2_with fail
              go_roundw
              case rel => exact ⟨j + 1, by omega, by go_num, take_succ_eq Heq.out Ha.out Ha2.out, bw.drew, e1, e3⟩
              all_goals (simp [intOf]; omega)
            · have hab2 : (a == a2) = false := beq_false_of_ne hab
              have hr : firstL R l 0 = j := Hfa.out.2.2.2 a a2 Ha.out Ha2.out hab
              have Hr := Lib.hid hr
              clear hr
              go_upto_region 7 with fail
              go_region
              go_wp2_with fail
              go_ret2
              exact ⟨by rw [Hr.out]; rfl, bw.drew⟩
          · obtain rfl : n3 = n := by omega
            by_cases hab : a = a2
            · subst hab
              go_upto_region 7 with fail
              go_region
              go_wp2_with fail
              go_roundw
              case rel => exact ⟨j + 1, by omega, by go_num, take_succ_eq Heq.out Ha.out Ha2.out, bw.drew, e1, e3⟩
              all_goals (simp [intOf]; omega)
            · have hab2 : (a == a2) = false := beq_false_of_ne hab
              have hr : firstL R l 0 = j := Hfa.out.2.2.2 a a2 Ha.out Ha2.out hab
              have Hr := Lib.hid hr
              clear hr
              go_upto_region 7 with fail
              go_region
              go_wp2_with fail
              go_ret2
              exact ⟨by rw [Hr.out]; rfl, bw.drew⟩
        · obtain rfl : n3 = j := by omega
          by_cases hmx3 : n3 < n
          · have hr : firstL R l 0 = n3 := Hfa.out.2.2.1 ⟨by omega, rfl⟩
            have Hr := Lib.hid hr
            clear hr
            go_upto_region 7 with fail
            go_region
            go_wp2_with fail
            go_ret2
            exact ⟨by rw [Hr.out]; rfl, bw.drew⟩
          · have hr : firstL R l 0 = -1 := Hfa.out.1 ⟨by omega, by omega⟩
            have Hr := Lib.hid hr
            clear hr
            go_wp2_with fail
            go_ret2
            exact ⟨by rw [Hr.out]; rfl, bw⟩
  · rw [show resK k count bytes L l = 0 by unfold resK; rw [if_neg hok]]
    rw [show errC count bytes L = 2 by unfold errC; rw [if_neg hok]] at C ⊢
    clear hok
    go_enter Try.func27, Try.ntmps27
    go_wp2_with (first | (go_at_call 19; refine C.mono ?_; clear C; rintro e w1 ⟨A, n, c, rfl, rfl, o1, b1⟩))
    go_ret2
    exact ⟨rfl, b1⟩
end Go.Proofs.Yteibleghnadelaa
