/-
  The walk of the law HashSame: it returns true, and writes nothing that was there.
-/
import Derived.Test.YtbecffgnfbgdlaaW
namespace Go.Proofs.Ytbecffgnfbgdlaa
open Go.ChangeShapes Go.WideShapes Go.ChangeAt Go.RowKit
set_option linter.unusedVariables false
/-- What the last statement of HashSame needs of the world, at every one of its operations. -/
def Held (w : World) (a0 : Int) (w' : World) : Prop := Below w.heap.size w w' ∧ w.heap.size + 4 ≤ w'.heap.size ∧ w'.cell? ⟨w.heap.size + 1 + 1, 0, none⟩ = some (.int .u64 a0) ∧ w'.cell? ⟨w.heap.size + 1 + 1, 1, none⟩ = some (.bool true) ∧ w'.cell? ⟨w.heap.size + 1 + 1 + 1, 0, none⟩ = some (.int .u64 a0) ∧ w'.cell? ⟨w.heap.size + 1 + 1 + 1, 1, none⟩ = some (.bool false)
theorem held_below {w W w' : World} {a0 : Int} (h : Held w a0 W) (hb : Below W.heap.size W w') : Held w a0 w' := by
  obtain ⟨g0, g1, g2, g3, g4, g5⟩ := h
  refine ⟨g0.trans (hb.mono (by omega)), by have := hb.size; omega, ?_, ?_, ?_, ?_⟩ <;> (rw [hb.cell (by simp; omega)]; assumption)
theorem held_bel {w W : World} {a0 : Int} (h : Held w a0 W) : Below w.heap.size w W := h.1
theorem held_alloc {w W : World} {a0 : Int} (h : Held w a0 W) (o : Obj) : Held w a0 (W.alloc o) :=
  held_below h ((Below.refl _ _).alloc (Nat.le_refl _) _)
theorem held_start (w : World) (a0 : Int) : Held w a0 (((((w.alloc (Obj.cells #[Value.int IntKind.u64 a0, Value.bool true] 27)).alloc
          (Obj.cells #[Value.int IntKind.u64 a0, Value.bool false] 27)).alloc
      (Obj.cells #[Value.int IntKind.u64 a0, Value.bool true] 27)).alloc
  (Obj.cells #[Value.int IntKind.u64 a0, Value.bool false] 27)).drew) := by
  refine ⟨Below.drew (by repeat (first | exact Below.refl _ _ | refine Below.alloc ?_ (by simp <;> omega) _)), by simp, ?_, ?_, ?_, ?_⟩ <;> simp [go_sem, World.cell?_alloc_past]
theorem sum_true (h : Int) (a b : List UInt8) : sumI h true a = sumI h true b := rfl
set_option maxHeartbeats 1600000 in
theorem hashSame_walk (a0 : Int) (a1 a2 : ByteArray) (w0 : (Lit.int .u64 a0).wf = true) (w1 : a1.size ≤ maxLen) (w2 : a2.size ≤ maxLen) (w : World) :
    Calls Try.prog 6 #[.int .u64 a0, .string a1, .string a2] w fun e w' => e = .returned (.bool true) ∧ Below w.heap.size w w' := by
  have hW : Word a0 := word_wf w0
  have hE : (⟨#[]⟩ : ByteArray).size ≤ maxLen := by simp [ByteArray.size, maxLen]
  obtain ⟨h0, h1⟩ := word_wf w0
  clear w0
  by_cases hl1 : 600 < a1.size
  · go_enter Try.func6, Try.ntmps6
    go_wp2_with fail
    refine (known_any _).mono ?_
    rintro e w' ⟨rfl, hb⟩
    go_wp2_with fail
    go_ret
    exact ⟨rfl, hb⟩
  by_cases hl2 : 600 < a2.size
  · go_enter Try.func6, Try.ntmps6
    go_wp2_with fail
    refine (known_any _).mono ?_
    rintro e w' ⟨rfl, hb⟩
    go_wp2_with fail
    go_ret
    exact ⟨rfl, hb⟩
  have e1 : (sumI a0 true a1.data.toList == sumI a0 true a2.data.toList) = true := by rw [sum_true a0 a1.data.toList a2.data.toList]; simp
  have e2 : (sumI a0 true a1.data.toList == sumI a0 false []) = true := by rw [show sumI a0 true a1.data.toList = sumI a0 false [] from rfl]; simp
  go_enter Try.func6, Try.ntmps6
  go_wp2_with fail
  refine (new_any _ _ _).mono ?_
  rintro e w' ⟨rfl, rfl⟩
  go_wp2_with fail
  refine (new_any _ _ _).mono ?_
  rintro e w' ⟨rfl, rfl⟩
  go_wp2_with fail
  go_region_held3 (fun w' => Below w.heap.size w w' ∧ w.heap.size + 4 ≤ w'.heap.size ∧ w'.cell? ⟨w.heap.size + 1 + 1, 0, none⟩ = some (.int .u64 a0) ∧ w'.cell? ⟨w.heap.size + 1 + 1, 1, none⟩ = some (.bool true) ∧ w'.cell? ⟨w.heap.size + 1 + 1 + 1, 0, none⟩ = some (.int .u64 a0) ∧ w'.cell? ⟨w.heap.size + 1 + 1 + 1, 1, none⟩ = some (.bool false))
    (first
      | exact held_start w a0
      | exact held_alloc (by assumption) _
      | exact held_below (by assumption) hb)
    (first
      | (go_at_call 13; ((with_reducible refine (sum_any a0 hW true a1 w1 _).mono ?_); rintro e w' ⟨rfl, rfl⟩))
      | (go_at_call 13; ((with_reducible refine (sum_any a0 hW true a2 w2 _).mono ?_); rintro e w' ⟨rfl, rfl⟩))
      | (go_at_call 13; ((with_reducible refine (sum_any a0 hW false a1 w1 _).mono ?_); rintro e w' ⟨rfl, rfl⟩))
      | (go_at_call 13; ((with_reducible refine (sum_any a0 hW false ⟨#[]⟩ hE _).mono ?_); rintro e w' ⟨rfl, rfl⟩))
      | (go_at_call 11; ((with_reducible refine (new_any a0 _ _).mono ?_); rintro e w' ⟨rfl, rfl⟩))
      | (go_at_call 10; ((with_reducible refine (known_any _).mono ?_); rintro e w' ⟨rfl, hb⟩)))
  go_wp2
  go_ret
  exact ⟨rfl, held_bel (a0 := a0) (by assumption)⟩
end Go.Proofs.Ytbecffgnfbgdlaa
