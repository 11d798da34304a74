/-
  The plain law of the stage's theorem: what stays without the victims.
-/
import Derived.Test.YteibleghnadelaaL
namespace Go.Proofs.Yteibleghnadelaa
set_option linter.unusedVariables false

theorem orderL_nobody {l : List (Int × Int)} (h : ∀ x ∈ l, FairE x) : orderL 4294967295 l = l := by
  unfold orderL
  apply List.filter_eq_self.2
  intro x hx
  have := (h x hx).1
  simp; omega
theorem Stays.mono {l : List (Int × Int)} {keep count bytes c2 b2 : Int} {m : Nat} (h : Stays l keep c2 b2 m) (h1 : c2 ≤ count) (h2 : b2 ≤ bytes) : Stays l keep count bytes m := by
  unfold Stays at *; omega
theorem many_mono {l : List (Int × Int)} {keep count bytes c2 b2 : Int} (h1 : c2 ≤ count) (h2 : b2 ≤ bytes) : many l keep count bytes ≤ many l keep c2 b2 := by
  apply Decidable.byContradiction
  intro h
  have h3 : many l keep c2 b2 < many l keep count bytes := by omega
  have h4 := many_le l keep count bytes
  exact many_not h3 ((many_is (l := l) (keep := keep) (count := c2) (bytes := b2) (by omega)).mono h1 h2)
theorem victims_prefix {l : List (Int × Int)} {keep count bytes c2 b2 : Int} (h1 : c2 ≤ count) (h2 : b2 ≤ bytes) :
    (victimsL l keep count bytes).length ≤ (victimsL l keep c2 b2).length ∧ victimsL l keep count bytes = (victimsL l keep c2 b2).take (victimsL l keep count bytes).length := by
  have h := many_mono (l := l) (keep := keep) h1 h2
  rw [victimsL_length, victimsL_length]
  refine ⟨h, ?_⟩
  unfold victimsL
  rw [List.take_take, Nat.min_eq_left h]
/-- What is not among some slots. -/
def leftL (l : List (Int × Int)) (gone : List Int) : List (Int × Int) := l.filter fun x => !decide (x.1 ∈ gone)
theorem leftL_take : ∀ {l : List (Int × Int)} (k : Nat), (l.map (·.1)).Nodup → leftL l ((l.map (·.1)).take k) = l.drop k
  | [], k, _ => by simp [leftL]
  | x :: l, 0, _ => by unfold leftL; rw [List.filter_eq_self.2]; rfl; simp
  | x :: l, k + 1, h => by
    rw [List.map_cons, List.nodup_cons] at h
    have ih := leftL_take k h.2
    rw [List.map_cons, List.take_succ_cons, List.drop_succ_cons, ← ih]
    unfold leftL
    rw [List.filter_cons, if_neg (by simp)]
    apply List.filter_congr
    intro y hy
    have hne : y.1 ≠ x.1 := fun e => h.1 (by rw [← e]; exact List.mem_map_of_mem hy)
    simp [hne]
/-- Within a number and a cost. -/
def Within (l : List (Int × Int)) (gone : List Int) (count bytes : Int) : Prop := ((leftL l gone).length : Int) ≤ count ∧ total (leftL l gone) ≤ bytes
instance (l : List (Int × Int)) (gone : List Int) (count bytes : Int) : Decidable (Within l gone count bytes) := by unfold Within; infer_instance
theorem within_stays {l : List (Int × Int)} (h : FairL l) {count bytes : Int} {k : Nat} (hk : k ≤ l.length) : Within l ((l.map (·.1)).take k) count bytes ↔ Stays l 4294967295 count bytes k := by
  unfold Within Stays
  rw [leftL_take k h.2, orderL_nobody h.1]
  have h3 := total_append (l.take k) (l.drop k)
  rw [List.take_append_drop] at h3
  rw [List.length_drop, h3]
  constructor <;> intro ⟨a, b⟩ <;> constructor <;> omega
theorem victims_within {l : List (Int × Int)} (h : FairL l) {count bytes : Int} (h1 : 0 ≤ count) (h2 : 0 ≤ bytes) :
    Within l (victimsL l 4294967295 count bytes) count bytes ∧ (∀ n, (victimsL l 4294967295 count bytes).length = n + 1 → ¬ Within l ((victimsL l 4294967295 count bytes).take n) count bytes) := by
  have e := orderL_nobody h.1
  have hle := many_le l 4294967295 count bytes
  have hv : victimsL l 4294967295 count bytes = (l.map (·.1)).take (many l 4294967295 count bytes) := by unfold victimsL; rw [e]
  rw [e] at hle
  constructor
  · rw [hv, within_stays h hle]
    by_cases q : many l 4294967295 count bytes < l.length
    · exact many_is (by rw [e]; exact q)
    · have q2 : many l 4294967295 count bytes = l.length := by omega
      unfold Stays
      rw [q2, e, List.take_length]
      omega
  · intro n hn
    rw [victimsL_length] at hn
    rw [hv, List.take_take, Nat.min_eq_left (by omega), within_stays h (by omega)]
    exact many_not (by omega)
end Go.Proofs.Yteibleghnadelaa
