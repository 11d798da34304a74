/-
  The contract of the law's within.
-/
import Derived.Test.YteibleghnadelaaS
namespace Go.Proofs.Yteibleghnadelaa
open Go.ChangeShapes Go.WideShapes Go.ChangeAt Go.RowKit
set_option linter.unusedVariables false

theorem take_left {L : List (Int × Int)} {G : List Int} {j : Nat} {x : Int × Int} (hx : L[j]? = some x) : leftL (L.take (j + 1)) G = leftL (L.take j) G ++ if x.1 ∈ G then [] else [x] := by
  unfold leftL
  rw [List.take_add_one, hx, List.filter_append]
  congr 1
  by_cases h : x.1 ∈ G <;> simp [h]
theorem leftL_sub {L : List (Int × Int)} {G : List Int} : ∀ x ∈ leftL L G, x ∈ L := fun x hx => (List.mem_filter.1 hx).1
theorem leftL_bound {L : List (Int × Int)} {G : List Int} (h : ∀ x ∈ L, FairE x) (hl : L.length ≤ 500) (j : Nat) : (leftL (L.take j) G).length ≤ 500 ∧ 0 ≤ total (leftL (L.take j) G) ∧ total (leftL (L.take j) G) ≤ 549755813888000 := by
  have h1 : (leftL (L.take j) G).length ≤ 500 := Nat.le_trans (List.length_filter_le _ _) (by rw [List.length_take]; omega)
  have h2 := total_bound (l := leftL (L.take j) G) (fun x hx => h x (List.mem_of_mem_take (leftL_sub x hx)))
  omega
theorem both2 {s1 s2 : Option Addr} {n1 c1 n2 c2 : Nat} {L1 L2 : List (Int × Int)} {w : World} (hE1 : Ents w s1 L1) (hE2 : Ents w s2 L2) (h1 : L1.length = n1) (h2 : L2.length = n2) (h3 : n1 + n2 ≤ 500) :
    ∃ v2 w2 A c w3, (Builtin.append_ #[22, 22] 22 #[.slice none 0 0, .slice s1 n1 c1]).run Try.prog w = .ok v2 w2 ∧ (Builtin.append_ #[22, 22] 22 #[v2, .slice s2 n2 c2]).run Try.prog w2 = .ok (.slice A (n1 + n2) c) w3 ∧
      Ents w3 A (L1 ++ L2) ∧ Below w.heap.size w w2 ∧ Below w.heap.size w w3 := by
  obtain ⟨v2, w2, r2, o2, g2, _⟩ := app_ents (c := c1) (n := 0) (L := []) (World.ownsRow_nil w w.heap.size 34 2) h1 hE1 (Nat.le_refl _) (by omega) 22
  have b2 := Below.grown (Below.refl w.heap.size w) g2 (by simp [Value.ownBlock]) (Nat.le_refl _)
  obtain ⟨v3, w3, r3, o3, g3, _⟩ := app_ents (c := c2) o2 h2 (hE2.below b2 (Nat.le_refl _)) b2.size (by omega) 22
  have b3 := Below.grown b2 g3 (own_block o2) b2.size
  rw [Nat.zero_add] at o3
  obtain ⟨A, c, rfl⟩ := own_shape o3
  exact ⟨v2, w2, A, c, w3, r2, r3, (Ents.of_owns o3).2, b2, b3⟩
set_option maxHeartbeats 4000000 in
theorem within_is {s1 s2 s3 : Option Addr} {n1 c1 n2 c2 n3 c3 : Nat} {count bytes : Int} {L1 L2 : List (Int × Int)} {G : List Int} {w : World} (hE1 : Ents w s1 L1) (hE2 : Ents w s2 L2) (hE3 : Slots w s3 G) (h1 : L1.length = n1) (h2 : L2.length = n2) (h3 : n1 + n2 ≤ 500) (h4 : G.length = n3) (h5 : n3 ≤ 1000) (hf : ∀ x ∈ L1 ++ L2, FairE x) :
    Calls Try.prog 21 #[.agg #[.slice s1 n1 c1, .slice s2 n2 c2], .slice s3 n3 c3, .int .i64 count, .int .i64 bytes] w fun e w' => e = .returned (.bool (decide (Within (L1 ++ L2) G count bytes))) ∧ Below w.heap.size w w' := by
  have b0 : Below w.heap.size w (w.alloc (.cells #[.slice s1 n1 c1, .slice s2 n2 c2] 24)).drew := ((Below.refl _ _).alloc (Nat.le_refl _) _).drew
  obtain ⟨v2, w2, A, c, w3, r2, r3, E3, b2, b3⟩ := both2 (c1 := c1) (c2 := c2) (hE1.below b0 (Nat.le_refl _)) (hE2.below b0 (Nat.le_refl _)) h1 h2 h3
  have hb : (w.alloc (.cells #[.slice s1 n1 c1, .slice s2 n2 c2] 24)).drew.heap[w.heap.size]? = some (.cells #[.slice s1 n1 c1, .slice s2 n2 c2] 24 (0, 0)) := heap_new rfl
  have hlen : (L1 ++ L2).length = n1 + n2 := by rw [List.length_append, h1, h2]
  have hB := leftL_bound (G := G) hf (by omega)
  have bz := b0.trans (b3.mono b0.size)
  have e3 := hE3.below bz (Nat.le_refl _)
  have q1 : w2.cell? ⟨w.heap.size, 1, none⟩ = some (.slice s2 n2 c2) := cell_of ((b2.block w.heap.size (lt_of_heap hb)).trans hb) 1
  generalize L1 ++ L2 = L at *
  generalize n1 + n2 = n at *
  have Hlen := Lib.hid hlen
  have HB := Lib.hid hB
  have H4 := Lib.hid h4
  clear hlen hE1 hE2 h1 h2 hB h4 b0 b3 hb b2 hE3
  go_enter Try.func21, Try.ntmps21
  go_upto_region 2 with fail
  go_region_law (first
    | (refine step_run rfl (.const (.slice none 0 0)) (.tmp 14) 22 rfl rfl rfl r2 ?_)
    | (refine step_run rfl (.tmp 15) (.tmp 17) 22 rfl rfl rfl r3 ?_))
  all_goals clear r3 q1
  all_goals go_wp2_with fail
  all_goals (
    go_loopw [9, 10, 12] (fun a b x wr => ∃ j : Nat, j ≤ n ∧ x = .int .i64 (j : Nat) ∧ a = .int .i64 ((leftL (L.take j) G).length : Nat) ∧ b = .int .i64 (total (leftL (L.take j) G)) ∧ Below w.heap.size w wr ∧ Ents wr A L ∧ Slots wr s3 G) (fun _ _ x _ => n + 1 - (intOf x).toNat)
    case atStart => exact ⟨0, by omega, rfl, by simp [leftL], by simp [leftL, total], bz, E3, e3⟩
    case round =>
      obtain ⟨j, hj, rfl, rfl, rfl, bw, ew, sw⟩ := hrel
      clear bz E3 e3
      have hb1 := HB.out j
      by_cases hjn : j < n
      · obtain ⟨x, hx⟩ : ∃ x, L[j]? = some x := ⟨_, List.getElem?_eq_getElem (by rw [Hlen.out]; omega)⟩
        obtain ⟨b, off, rfl, hb, p1, p2⟩ := ew.get hx
        have C := find_is (c := c3) (x := x.1) sw H4.out h5
        have ht := take_left (G := G) hx
        have hb2 := HB.out (j + 1)
        have hfx := hf x (List.mem_iff_getElem?.2 ⟨j, hx⟩)
        have hx2 := hfx.2
        by_cases hg : x.1 ∈ G
        · rw [decide_eq_true hg] at C
          rw [if_pos hg, List.append_nil] at ht
          have Ht := Lib.hid ht
          clear ht hg hx hfx hb2
          generalize leftL (L.take j) G = F at *
          go_wp2_with (first | (go_at_call 30; refine C.mono ?_; clear C; rintro e w5 ⟨⟨i, rfl, hi, hi1, hi2⟩, rfl⟩; have hi : decide (i < 0) = false := hi))
          go_roundw
          case rel => exact ⟨j + 1, by omega, by go_num, by rw [Ht.out], by rw [Ht.out], bw, ew, sw⟩
          all_goals (simp [intOf]; omega)
        · rw [decide_eq_false hg] at C
          rw [if_neg hg] at ht
          have ht2 : (leftL (L.take (j + 1)) G).length = (leftL (L.take j) G).length + 1 := by rw [ht]; simp
          have ht3 : total (leftL (L.take (j + 1)) G) = total (leftL (L.take j) G) + x.2 := by rw [ht, total_append]; simp [total]
          rw [ht2, ht3] at hb2
          have Ht2 := Lib.hid ht2
          have Ht3 := Lib.hid ht3
          clear ht hg hx hfx ht2 ht3
          generalize hF : (leftL (L.take j) G).length = F at *
          generalize hT : total (leftL (L.take j) G) = T at *
          clear hF hT
          go_wp2_with (first | (go_at_call 30; refine C.mono ?_; clear C; rintro e w5 ⟨⟨i, rfl, hi, hi1, hi2⟩, rfl⟩; have hi : decide (i < 0) = true := hi))
          go_upto_region 7 with fail
          go_region
          go_wp2_with fail
          go_roundw
          case rel => exact ⟨j + 1, by omega, by go_num, by rw [Ht2.out]; go_num, by rw [Ht3.out], bw.drew, ew, sw⟩
          all_goals (simp [intOf]; omega)
      · obtain rfl : n = j := by omega
        have htk : L.take n = L := List.take_of_length_le (by rw [Hlen.out]; omega)
        rw [htk] at hb1 ⊢
        by_cases hc : ((leftL L G).length : Int) ≤ count
        · by_cases hd : total (leftL L G) ≤ bytes
          · have hr : decide (Within L G count bytes) = true := decide_eq_true ⟨hc, hd⟩
            have Hr := Lib.hid hr
            have hd2 : decide (total (leftL L G) ≤ bytes) = true := decide_eq_true hd
            clear hr htk
            generalize leftL L G = F at *
            go_wp2_with fail
            go_ret
            exact ⟨by rw [Hr.out]; rfl, bw⟩
          · have hr : decide (Within L G count bytes) = false := decide_eq_false fun q => hd q.2
            have Hr := Lib.hid hr
            have hd2 : decide (total (leftL L G) ≤ bytes) = false := decide_eq_false hd
            clear hr htk
            generalize leftL L G = F at *
            go_wp2_with fail
            go_ret
            exact ⟨by rw [Hr.out]; rfl, bw⟩
        · have hr : decide (Within L G count bytes) = false := decide_eq_false fun q => hc q.1
          have Hr := Lib.hid hr
          clear hr htk
          generalize leftL L G = F at *
          go_wp2_with fail
          go_ret
          exact ⟨by rw [Hr.out]; rfl, bw⟩)
end Go.Proofs.Yteibleghnadelaa
