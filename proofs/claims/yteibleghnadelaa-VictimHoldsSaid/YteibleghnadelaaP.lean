/-
  The contracts of the reference's Stays and Choose.
-/
import Derived.Test.YteibleghnadelaaO
namespace Go.Proofs.Yteibleghnadelaa
open Go.ChangeShapes Go.WideShapes Go.ChangeAt Go.RowKit
set_option linter.unusedVariables false

set_option maxHeartbeats 4000000 in
theorem stays_is {s1 s2 : Option Addr} {n1 c1 n2 c2 m : Nat} {k count bytes : Int} {L1 L2 : List (Int × Int)} {w : World} (hE1 : Ents w s1 L1) (hE2 : Ents w s2 L2) (h1 : L1.length = n1) (h2 : L2.length = n2) (h3 : n1 + n2 ≤ 500) (hf : ∀ x ∈ L1 ++ L2, FairE x) (hm : m ≤ (orderL k (L1 ++ L2)).length) :
    Calls Try.prog 26 #[.slice s1 n1 c1, .slice s2 n2 c2, .int .u32 k, .int .i64 (m : Nat), .int .i64 count, .int .i64 bytes] w fun e w' => e = .returned (.bool (decide (Stays (L1 ++ L2) k count bytes m))) ∧ Below w.heap.size w w' := by
  obtain ⟨v2, w2, A, c, w3, r2, r3, o3, b3⟩ := both (c1 := c1) (c2 := c2) hE1 hE2 h1 h2 h3
  have C := fun W (b : Below w.heap.size w W) => orderR_is (c1 := c1) (c2 := c2) (k := k) (hE1.below b (Nat.le_refl _)) (hE2.below b (Nat.le_refl _)) h1 h2 h3
  have C3 := C w3 b3
  clear C
  have hlen : (L1 ++ L2).length = n1 + n2 := by rw [List.length_append, h1, h2]
  generalize L1 ++ L2 = L at *
  generalize n1 + n2 = n at *
  have E3 := (Ents.of_owns o3).2
  have htb : ∀ j, 0 ≤ total (L.take j) ∧ total (L.take j) ≤ total L := total_take_bound hf
  have htt := total_bound hf
  rw [hlen] at htt
  have htot : total L ≤ 549755813888000 := by omega
  have htot0 : 0 ≤ total L := htt.1
  have hOn := orderL_length k L
  rw [hlen] at hOn
  have hOf : ∀ x ∈ orderL k L, FairE x := fun x hx => hf x (orderL_sub x hx)
  have hOt : ∀ j, 0 ≤ total ((orderL k L).take j) ∧ total ((orderL k L).take j) ≤ total L := fun j => by
    have h1 := total_take_bound hOf j
    have h2 := total_order_le (keep := k) hf
    omega
  have Htb := Lib.hid htb
  have HOt := Lib.hid hOt
  have Hlen := Lib.hid hlen
  have hS : decide (Stays L k count bytes m) = true ↔ ((n : Int) - (m : Int) ≤ count ∧ total L - total ((orderL k L).take m) ≤ bytes) := by rw [decide_eq_true_iff]; unfold Stays; rw [hlen]
  have HR := Lib.hid hS
  clear hS
  generalize decide (Stays L k count bytes m) = R at *
  clear htb hOt hOf hf htt hlen o3 hE1 hE2 h1 h2
  generalize hO : orderL k L = O at *
  have htk : total (L.take n) = total L := by rw [List.take_of_length_le (by rw [Hlen.out]; omega)]
  have Htk := Lib.hid htk
  clear htk hO
  have hmn : m ≤ n := by omega
  go_enter Try.func26, Try.ntmps26
  go_wp2_with (first | (at_builtin; refine Lib.wpList_append_run _ rfl (.const (.slice none 0 0)) (.tmp 19) 22 22 rfl _ _ rfl rfl _ _ r2 ?_) | (at_builtin; refine Lib.wpList_append_run _ rfl (.tmp 20) (.tmp 21) 22 22 rfl _ _ rfl rfl _ _ r3 ?_))
  clear r2 r3
  go_loopw [15, 16] (fun y x wr => ∃ j : Nat, j ≤ n ∧ x = .int .i64 (j : Nat) ∧ y = .int .i64 (total (L.take j)) ∧ wr = w3) (fun _ x _ => n + 1 - (intOf x).toNat)
  case atStart => exact ⟨0, by omega, rfl, rfl, rfl⟩
  case round =>
    obtain ⟨j, hj, rfl, rfl, rfl⟩ := hrel
    by_cases hjn : j < n
    · obtain ⟨x, hx⟩ : ∃ x, L[j]? = some x := ⟨_, List.getElem?_eq_getElem (by rw [Hlen.out]; omega)⟩
      obtain ⟨b, off, rfl, hb, q1, q2⟩ := E3.get hx
      have ht := total_take_succ hx
      have hb1 := Htb.out j
      have hb2 := Htb.out (j + 1)
      have Ht := Lib.hid ht
      rw [ht] at hb2
      clear ht hx
      generalize hT : total (L.take j) = t at *
      have HT := Lib.hid hT
      clear hT C3
      go_wp2_with fail
      go_roundw
      case rel => exact ⟨j + 1, by omega, by go_num, by rw [Ht.out], by first | rfl | trivial⟩
      all_goals (simp [intOf]; omega)
    · obtain rfl : n = j := by omega
      rw [Htk.out]
      generalize hT : total L = T at *
      have HT := Lib.hid hT
      clear hT
      go_wp2_with (first | (go_at_call 14; refine C3.mono ?_; clear C3; rintro e w5 ⟨A5, n5, c5, rfl, rfl, o5, b5⟩; have E5 := (Ents.of_owns o5).2; clear o5))
      go_loopw [15, 18] (fun y x wr => ∃ j : Nat, j ≤ m ∧ x = .int .i64 (j : Nat) ∧ y = .int .i64 (T - total (O.take j)) ∧ wr = w5) (fun _ x _ => m + 1 - (intOf x).toNat)
      case atStart => exact ⟨0, by omega, rfl, by simp [total], rfl⟩
      case round =>
        obtain ⟨j, hj, rfl, rfl, rfl⟩ := hrel
        have hb1 := HOt.out j
        have hb2 := HOt.out (j + 1)
        by_cases hjm : j < m
        · obtain ⟨x, hx⟩ : ∃ x, O[j]? = some x := ⟨_, List.getElem?_eq_getElem (by omega)⟩
          obtain ⟨b, off, rfl, hb, q1, q2⟩ := E5.get hx
          have ht := total_take_succ hx
          have Ht := Lib.hid ht
          rw [ht] at hb2
          clear ht hx
          generalize hT5 : total (O.take j) = t at *
          have HT5 := Lib.hid hT5
          clear hT5
          go_wp2_with fail
          go_roundw
          case rel => exact ⟨j + 1, by omega, by go_num, by rw [Ht.out]; congr 1; omega, by first | rfl | trivial⟩
          all_goals (simp [intOf]; omega)
        · obtain rfl : m = j := by omega
          have bz := b3.trans (b5.mono b3.size)
          generalize ht9 : total (O.take m) = t at *
          have Ht9 := Lib.hid ht9
          clear ht9
          by_cases hc : (n : Int) - (m : Int) ≤ count
          · by_cases hd : T - t ≤ bytes
            · obtain rfl : R = true := HR.out.2 ⟨hc, hd⟩
              go_wp2_with fail
              go_ret
              exact ⟨rfl, bz⟩
            · obtain rfl : R = false := by
                cases R
                · rfl
                · have := (HR.out.1 rfl).2
                  exact absurd this hd
              go_wp2_with fail
              go_ret
              exact ⟨rfl, bz⟩
          · obtain rfl : R = false := by
              cases R
              · rfl
              · exact absurd (HR.out.1 rfl).1 hc
            go_wp2_with fail
            go_ret
            exact ⟨rfl, bz⟩
set_option maxHeartbeats 4000000 in
theorem chooseR_is {s1 s2 : Option Addr} {n1 c1 n2 c2 : Nat} {k count bytes : Int} {L1 L2 : List (Int × Int)} {w : World} (hE1 : Ents w s1 L1) (hE2 : Ents w s2 L2) (h1 : L1.length = n1) (h2 : L2.length = n2) (h3 : n1 + n2 ≤ 500) (hf : ∀ x ∈ L1 ++ L2, FairE x) :
    Calls Try.prog 16 #[.slice s1 n1 c1, .slice s2 n2 c2, .int .u32 k, .int .i64 count, .int .i64 bytes] w fun e w' => ∃ A n c, n = (victimsL (L1 ++ L2) k count bytes).length ∧ e = .returned (.slice A n c) ∧ w'.ownsRow w.heap.size 25 1 (.slice A n c) n (slotsL (victimsL (L1 ++ L2) k count bytes)) ∧ Below w.heap.size w w' := by
  have C := orderR_is (c1 := c1) (c2 := c2) (k := k) hE1 hE2 h1 h2 h3
  have C26 := fun W (b : Below w.heap.size w W) m (hm : m ≤ (orderL k (L1 ++ L2)).length) => stays_is (c1 := c1) (c2 := c2) (count := count) (bytes := bytes) (hE1.below b (Nat.le_refl _)) (hE2.below b (Nat.le_refl _)) h1 h2 h3 hf hm
  have hst := fun m => many_step (l := L1 ++ L2) (keep := k) (count := count) (bytes := bytes) (m := m)
  have hv : victimsL (L1 ++ L2) k count bytes = ((orderL k (L1 ++ L2)).map (·.1)).take (many (L1 ++ L2) k count bytes) := rfl
  have hvl := victimsL_length (L1 ++ L2) k count bytes
  have hml := many_le (L1 ++ L2) k count bytes
  have hOn := orderL_length k (L1 ++ L2)
  rw [List.length_append, h1, h2] at hOn
  have Hst := Lib.hid hst
  have Hv := Lib.hid hv
  have C26 := Lib.hid C26
  clear hst hv hE1 hE2 h1 h2 hf
  rw [hvl]
  clear hvl
  generalize victimsL (L1 ++ L2) k count bytes = V at *
  generalize many (L1 ++ L2) k count bytes = M at *
  generalize L1 ++ L2 = L at *
  go_enter Try.func16, Try.ntmps16
  go_wp2_with (first | (go_at_call 14; refine C.mono ?_; clear C; rintro e w1 ⟨A, n, c, rfl, rfl, o1, b1⟩; have E1 := (Ents.of_owns o1).2; clear o1))
  have Hlen : RowKit.Hid ((orderL k L).length = (orderL k L).length) := Lib.hid rfl
  generalize hO : orderL k L = O at *
  clear hO
  generalize hlO : O.length = n at *
  clear Hlen
  have HlO := Lib.hid hlO
  clear hlO
  go_loopw [12] (fun x wr => ∃ m : Nat, m ≤ M ∧ x = .int .i64 (m : Nat) ∧ Below w1.heap.size w1 wr) (fun x _ => M + 1 - (intOf x).toNat)
  case atStart => exact ⟨0, by omega, rfl, Below.refl _ _⟩
  case round =>
    obtain ⟨m, hm, rfl, bw⟩ := hrel
    have hst := Hst.out m hm
    have D := C26.out wr (b1.trans (bw.mono b1.size)) m (by omega)
    by_cases hmM : m < M
    · obtain ⟨q1, q2⟩ := hst.1 hmM
      rw [decide_eq_false q2] at D
      clear q2 hst
      go_wp2_with (first | (go_at_call 26; refine D.mono ?_; clear D; rintro e w2 ⟨rfl, b2⟩))
      go_roundw
      case rel => exact ⟨m + 1, by omega, by go_num, bw.trans (b2.mono bw.size)⟩
      all_goals (simp [intOf]; omega)
    · obtain rfl : M = m := by omega
      have Hst2 := Lib.hid hst
      clear hst
      by_cases hMn : M < n
      · have hS : Stays L k count bytes M := Decidable.byContradiction fun q => absurd (Hst2.out.2 ⟨hMn, q⟩) (Nat.lt_irrefl _)
        rw [decide_eq_true hS] at D
        clear hS
        go_wp2_with (first | (go_at_call 26; refine D.mono ?_; clear D; rintro e w2 ⟨rfl, b2⟩))
        have B2 := bw.trans (b2.mono bw.size)
        clear b2 bw
        go_loopw [13, 14] (fun v x wr => ∃ j : Nat, j ≤ M ∧ x = .int .i64 (j : Nat) ∧ wr.ownsRow w1.heap.size 25 1 v j (slotsL ((O.map (·.1)).take j)) ∧ Below w1.heap.size w1 wr) (fun _ x _ => M + 1 - (intOf x).toNat)
        case atStart => exact ⟨0, by omega, rfl, World.ownsRow_nil _ _ _ _, B2⟩
        case round =>
          obtain ⟨j, hj, rfl, o, bz⟩ := hrel
          have hbz := bz.size
          by_cases hjM : j < M
          · obtain ⟨x, hx⟩ : ∃ x, O[j]? = some x := ⟨_, List.getElem?_eq_getElem (by rw [HlO.out]; omega)⟩
            have e := E1.below bz (Nat.le_refl _)
            obtain ⟨b, off, rfl, hb, p1, p2⟩ := e.get hx
            have ht : (O.map (·.1)).take (j + 1) = (O.map (·.1)).take j ++ [x.1] := by rw [List.take_add_one, List.getElem?_map, hx]; rfl
            have Ht := Lib.hid ht
            clear ht hx
            have bA : Below w1.heap.size w1 (wr.alloc (.cells #[.int .u32 x.1] 25)) := bz.alloc hbz _
            have oA := o.alloc (.cells #[.int .u32 x.1] 25)
            obtain ⟨v', w', r, o', g', _⟩ := app_slots (c := 1) (m := 1) (M := [x.1]) oA rfl (slots_one (heap_new (w := wr) rfl)) bA.size (by omega) 39
            have b' := Below.grown bA g' (own_block oA) bA.size
            clear bA oA g'
            go_wp2_with (at_builtin; refine Lib.wpList_append_run _ rfl (.tmp 40) (.tmp 46) 39 39 rfl _ _ rfl rfl _ _ r ?_)
            go_roundw
            case rel => exact ⟨j + 1, by omega, by go_num, by rw [Ht.out]; exact o', b'⟩
            all_goals (simp [intOf]; omega)
          · obtain rfl : M = j := by omega
            go_wp2_with fail
            go_ret
            obtain ⟨A9, c9, e9⟩ := own_shape o
            subst e9
            exact ⟨A9, _, c9, rfl, rfl, by rw [Hv.out]; exact own_mono o b1.size, b1.trans (bz.mono b1.size)⟩
      · clear D
        go_wp2_with fail
        go_loopw [13, 14] (fun v x wr => ∃ j : Nat, j ≤ M ∧ x = .int .i64 (j : Nat) ∧ wr.ownsRow w1.heap.size 25 1 v j (slotsL ((O.map (·.1)).take j)) ∧ Below w1.heap.size w1 wr) (fun _ x _ => M + 1 - (intOf x).toNat)
        case atStart => exact ⟨0, by omega, rfl, World.ownsRow_nil _ _ _ _, bw⟩
        case round =>
          obtain ⟨j, hj, rfl, o, bz⟩ := hrel
          have hbz := bz.size
          by_cases hjM : j < M
          · obtain ⟨x, hx⟩ : ∃ x, O[j]? = some x := ⟨_, List.getElem?_eq_getElem (by rw [HlO.out]; omega)⟩
            have e := E1.below bz (Nat.le_refl _)
            obtain ⟨b, off, rfl, hb, p1, p2⟩ := e.get hx
            have ht : (O.map (·.1)).take (j + 1) = (O.map (·.1)).take j ++ [x.1] := by rw [List.take_add_one, List.getElem?_map, hx]; rfl
            have Ht := Lib.hid ht
            clear ht hx
            have bA : Below w1.heap.size w1 (wr.alloc (.cells #[.int .u32 x.1] 25)) := bz.alloc hbz _
            have oA := o.alloc (.cells #[.int .u32 x.1] 25)
            obtain ⟨v', w', r, o', g', _⟩ := app_slots (c := 1) (m := 1) (M := [x.1]) oA rfl (slots_one (heap_new (w := wr) rfl)) bA.size (by omega) 39
            have b' := Below.grown bA g' (own_block oA) bA.size
            clear bA oA g'
            go_wp2_with (at_builtin; refine Lib.wpList_append_run _ rfl (.tmp 40) (.tmp 46) 39 39 rfl _ _ rfl rfl _ _ r ?_)
            go_roundw
            case rel => exact ⟨j + 1, by omega, by go_num, by rw [Ht.out]; exact o', b'⟩
            all_goals (simp [intOf]; omega)
          · obtain rfl : M = j := by omega
            go_wp2_with fail
            go_ret
            obtain ⟨A9, c9, e9⟩ := own_shape o
            subst e9
            exact ⟨A9, _, c9, rfl, rfl, by rw [Hv.out]; exact own_mono o b1.size, b1.trans (bz.mono b1.size)⟩
end Go.Proofs.Yteibleghnadelaa
