/-
  The contracts of the reference's Fair, Order, Stays and Choose.
-/
import Derived.Test.YteibleghnadelaaK
namespace Go.Proofs.Yteibleghnadelaa
open Go.ChangeShapes Go.WideShapes Go.ChangeAt Go.RowKit
set_option linter.unusedVariables false

/-- The first entries are allowed, and no two have one slot. -/
def FairN (L : List (Int × Int)) (j : Nat) : Prop := FairL (L.take j)
theorem fair_succ {L : List (Int × Int)} {j : Nat} {x : Int × Int} (hx : L[j]? = some x) : FairL (L.take (j + 1)) ↔ FairL (L.take j) ∧ FairE x ∧ x.1 ∉ (L.take j).map (·.1) := by
  rw [List.take_add_one, hx]
  unfold FairL
  rw [List.map_append, List.nodup_append]
  constructor
  · rintro ⟨h1, h2, h3, h4⟩
    refine ⟨⟨fun y hy => h1 y (List.mem_append_left _ hy), h2⟩, h1 x (by simp), fun q => h4 _ q _ (by simp) rfl⟩
  · rintro ⟨⟨h1, h2⟩, h3, h4⟩
    refine ⟨fun y hy => ?_, h2, by simp, fun a ha b hb e => ?_⟩
    · rcases List.mem_append.1 hy with q | q
      · exact h1 y q
      · simp at q; subst q; exact h3
    · simp at hb; subst hb; subst e; exact h4 ha
theorem not_fair {L : List (Int × Int)} {j : Nat} (h : ¬ FairL (L.take j)) : ¬ FairL L := fun q => h ⟨fun y hy => q.1 y (List.mem_of_mem_take hy), by
  rw [List.map_take]; exact List.Sublist.nodup (List.take_sublist _ _) q.2⟩
set_option maxHeartbeats 4000000 in
theorem fair_is {s1 s2 : Option Addr} {n1 c1 n2 c2 : Nat} {L1 L2 : List (Int × Int)} {w : World} (hE1 : Ents w s1 L1) (hE2 : Ents w s2 L2) (h1 : L1.length = n1) (h2 : L2.length = n2) (h3 : n1 + n2 ≤ 500) :
    Calls Try.prog 10 #[.slice s1 n1 c1, .slice s2 n2 c2] w fun e w' => e = .returned (.bool (decide (FairL (L1 ++ L2)))) ∧ Below w.heap.size w w' := by
  obtain ⟨v2, w2, A, c, w3, r2, r3, o3, b3⟩ := both (c1 := c1) (c2 := c2) hE1 hE2 h1 h2 h3
  have hlen : (L1 ++ L2).length = n1 + n2 := by rw [List.length_append, h1, h2]
  generalize L1 ++ L2 = L at *
  generalize n1 + n2 = n at *
  have E3 := (Ents.of_owns o3).2
  have Hlen := Lib.hid hlen
  have hd9 : decide ((2097152 : Int) < (n : Int)) = false := decide_eq_false (by omega)
  clear hlen o3 hE1 hE2 h1 h2
  go_enter Try.func10, Try.ntmps10
  go_wp2_with (first | (at_builtin; refine Lib.wpList_append_run _ rfl (.const (.slice none 0 0)) (.tmp 8) 22 22 rfl _ _ rfl rfl _ _ r2 ?_) | (at_builtin; refine Lib.wpList_append_run _ rfl (.tmp 9) (.tmp 10) 22 22 rfl _ _ rfl rfl _ _ r3 ?_))
  go_loopw [6, 7] (fun x _ wr => ∃ j : Nat, j ≤ n ∧ x = .int .i64 (j : Nat) ∧ FairL (L.take j) ∧ Below w.heap.size w wr ∧ Ents wr A L) (fun x _ _ => n + 1 - (intOf x).toNat)
  case atStart => exact ⟨0, by omega, rfl, by simp [FairL], b3, E3⟩
  case round =>
    obtain ⟨j, hj, rfl, hf, bw, e⟩ := hrel
    have Hf := Lib.hid hf
    clear hf b3 E3 r2 r3
    by_cases hjn : j < n
    · obtain ⟨x, hx⟩ : ∃ x, L[j]? = some x := ⟨_, List.getElem?_eq_getElem (by rw [Hlen.out]; omega)⟩
      obtain ⟨b, off, rfl, hb, p1, p2⟩ := e.get hx
      have Hx := Lib.hid hx
      clear hx
      have C := fun W => fairE_is x W
      by_cases hfx : FairE x
      · rw [decide_eq_true hfx] at C
        have Hfx := Lib.hid hfx
        clear hfx
        go_upto_region 7 with fail
        go_region_held3 (fun W => (Below w.heap.size w W ∧ Ents W (some ⟨b, off, none⟩) L) ∧ W.cell? ⟨b, off + j * 2, none⟩ = some (.int .u32 x.1) ∧ W.cell? ⟨b, off + j * 2 + 1, none⟩ = some (.int .i64 x.2)) (first | assumption | exact ⟨⟨bw, e⟩, p1, p2⟩ | exact ⟨⟨bw.drew, e⟩, p1, p2⟩) (first | (go_at_call 23; refine (C _).mono ?_; rintro e w4 ⟨rfl, rfl⟩))
        clear C
        refine ex_seen (fun W => Below w.heap.size w W ∧ Ents W (some ⟨b, off, none⟩) L) ⟨bw.drew, e⟩ ?_
        clear p1 p2 e bw hb
        rintro wo ⟨bo, eo⟩
        go_wp2_with fail
        go_loopw [7] (fun y wz => ∃ k : Nat, k ≤ j ∧ y = .int .i64 (k : Nat) ∧ x.1 ∉ (L.take k).map (·.1) ∧ Below w.heap.size w wz ∧ Ents wz (some ⟨b, off, none⟩) L) (fun y _ => j + 1 - (intOf y).toNat)
        case atStart => exact ⟨0, by omega, rfl, by simp, bo, eo⟩
        case round =>
          obtain ⟨k, hk, rfl, hno, bz, ez⟩ := hrel
          have Hno := Lib.hid hno
          clear hno bo eo
          obtain ⟨b1, off1, e1, _, p1, p2⟩ := ez.get Hx.out
          obtain ⟨rfl, rfl⟩ : b = b1 ∧ off = off1 := by simpa using e1
          clear e1
          by_cases hkj : k < j
          · obtain ⟨y, hy⟩ : ∃ y, L[k]? = some y := ⟨_, List.getElem?_eq_getElem (by rw [Hlen.out]; omega)⟩
            obtain ⟨b1, off1, e1, _, q1, q2⟩ := ez.get hy
            obtain ⟨rfl, rfl⟩ : b = b1 ∧ off = off1 := by simpa using e1
            clear e1
            have Hy := Lib.hid hy
            clear hy
            by_cases hxy : y.1 = x.1
            · have hr : decide (FairL L) = false := decide_eq_false (not_fair (j := j + 1) (fun q => ((fair_succ Hx.out).1 q).2.2 (List.mem_map.2 ⟨y, List.mem_iff_getElem?.2 ⟨k, by rw [List.getElem?_take_of_lt hkj]; exact Hy.out⟩, hxy⟩)))
              have Hr := Lib.hid hr
              have hxy2 : (y.1 == x.1) = true := by simpa using hxy
              clear hr hxy
              go_upto_region 12 with fail
              go_region
              go_wp2_with fail
              go_ret
              exact ⟨by rw [Hr.out]; rfl, bz.drew⟩
            · have hxy2 : (y.1 == x.1) = false := beq_false_of_ne hxy
              have Hxy := Lib.hid hxy
              clear hxy
              go_upto_region 12 with fail
              go_region
              go_wp2_with fail
              go_roundw
              case rel => exact ⟨k + 1, by omega, by go_num, fun q => by
                rw [List.take_add_one, Hy.out, List.map_append] at q
                rcases List.mem_append.1 q with q | q
                · exact Hno.out q
                · simp at q; exact Hxy.out q.symm, bz.drew, ez⟩
              all_goals (simp [intOf]; omega)
          · obtain rfl : j = k := by omega
            have hf2 : FairL (L.take (j + 1)) := (fair_succ Hx.out).2 ⟨Hf.out, Hfx.out, Hno.out⟩
            have Hf2 := Lib.hid hf2
            clear hf2
            go_wp2_with fail
            go_roundw
            case rel => exact ⟨j + 1, by omega, by go_num, Hf2.out, bz, ez⟩
            all_goals (simp [intOf]; omega)
      · rw [decide_eq_false hfx] at C
        have hr : decide (FairL L) = false := decide_eq_false (not_fair (j := j + 1) (fun q => hfx ((fair_succ Hx.out).1 q).2.1))
        have Hr := Lib.hid hr
        clear hr hfx
        go_upto_region 7 with fail
        go_region_held3 (fun W => (Below w.heap.size w W ∧ Ents W (some ⟨b, off, none⟩) L) ∧ W.cell? ⟨b, off + j * 2, none⟩ = some (.int .u32 x.1) ∧ W.cell? ⟨b, off + j * 2 + 1, none⟩ = some (.int .i64 x.2)) (first | assumption | exact ⟨⟨bw, e⟩, p1, p2⟩ | exact ⟨⟨bw.drew, e⟩, p1, p2⟩) (first | (go_at_call 23; refine (C _).mono ?_; rintro e w4 ⟨rfl, rfl⟩))
        clear C
        go_wp2_with fail
        go_ret
        exact ⟨by rw [Hr.out]; rfl, bw.drew⟩
    · obtain rfl : n = j := by omega
      have hr : decide (FairL L) = true := decide_eq_true (by have := Hf.out; rwa [List.take_of_length_le (by rw [Hlen.out]; omega)] at this)
      have Hr := Lib.hid hr
      clear hr
      go_wp2_with fail
      go_ret
      exact ⟨by rw [Hr.out]; rfl, bw⟩
end Go.Proofs.Yteibleghnadelaa
