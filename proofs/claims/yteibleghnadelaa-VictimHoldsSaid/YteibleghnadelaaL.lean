/-
  The plain law of victims: entries, what is allowed, the victim order, the shortest prefix, the first difference.
-/
import Derived.Test.YteibleghnadelaaRows
namespace Go.Proofs.Yteibleghnadelaa
set_option linter.unusedVariables false

/-- The sum of the costs. -/
def total : List (Int × Int) → Int
  | [] => 0
  | x :: l => x.2 + total l
theorem total_append (a b : List (Int × Int)) : total (a ++ b) = total a + total b := by
  induction a with
  | nil => simp [total]
  | cons x a ih => simp only [List.cons_append, total, ih]; omega
theorem total_take_succ {l : List (Int × Int)} {m : Nat} {x : Int × Int} (h : l[m]? = some x) : total (l.take (m + 1)) = total (l.take m) + x.2 := by
  rw [List.take_add_one, h, total_append]; simp [total]
/-- An entry is allowed. -/
def FairE (x : Int × Int) : Prop := x.1 < 4194304 ∧ 0 ≤ x.2 ∧ x.2 ≤ 1099511627776
instance (x : Int × Int) : Decidable (FairE x) := by unfold FairE; infer_instance
/-- Entries are allowed. -/
def FairL (l : List (Int × Int)) : Prop := (∀ x ∈ l, FairE x) ∧ (l.map (·.1)).Nodup
instance (l : List (Int × Int)) : Decidable (FairL l) := by unfold FairL; infer_instance
theorem total_bound {l : List (Int × Int)} (h : ∀ x ∈ l, FairE x) : 0 ≤ total l ∧ total l ≤ 1099511627776 * (l.length : Int) := by
  induction l with
  | nil => simp [total]
  | cons x l ih =>
    have h1 := h x (by simp)
    have h2 := ih (fun y hy => h y (by simp [hy]))
    unfold FairE at h1
    simp only [total, List.length_cons]
    omega
/-- The victim order. -/
def orderL (keep : Int) (l : List (Int × Int)) : List (Int × Int) := l.filter fun x => !decide (x.1 = keep)
theorem orderL_sub {keep : Int} {l : List (Int × Int)} : ∀ x ∈ orderL keep l, x ∈ l := fun x hx => (List.mem_filter.1 hx).1
theorem orderL_length (keep : Int) (l : List (Int × Int)) : (orderL keep l).length ≤ l.length := List.length_filter_le _ _
theorem total_take_bound {l : List (Int × Int)} (h : ∀ x ∈ l, FairE x) (m : Nat) : 0 ≤ total (l.take m) ∧ total (l.take m) ≤ total l := by
  have h1 := total_bound (l := l.take m) (fun x hx => h x (List.mem_of_mem_take hx))
  have h2 := total_bound (l := l.drop m) (fun x hx => h x (List.mem_of_mem_drop hx))
  have h3 := total_append (l.take m) (l.drop m)
  rw [List.take_append_drop] at h3
  omega
theorem total_order_le {keep : Int} {l : List (Int × Int)} (h : ∀ x ∈ l, FairE x) : total (orderL keep l) ≤ total l := by
  induction l with
  | nil => exact Int.le_refl _
  | cons x l ih =>
    have h1 := h x (by simp)
    have h2 := ih (fun y hy => h y (by simp [hy]))
    unfold FairE at h1
    unfold orderL at h2 ⊢
    rw [List.filter_cons]
    split
    · simp only [total]; omega
    · simp only [total]; omega
/-- What stays is within a number and a cost. -/
def Stays (l : List (Int × Int)) (keep count bytes : Int) (m : Nat) : Prop := (l.length : Int) - (m : Int) ≤ count ∧ total l - total ((orderL keep l).take m) ≤ bytes
instance (l : List (Int × Int)) (keep count bytes : Int) (m : Nat) : Decidable (Stays l keep count bytes m) := by unfold Stays; infer_instance
/-- How many victims there are. -/
def manyF (P : Nat → Bool) : Nat → Nat → Nat
  | 0, m => m
  | n + 1, m => if P m then m else manyF P n (m + 1)
theorem manyF_le (P : Nat → Bool) : ∀ n m, m ≤ manyF P n m ∧ manyF P n m ≤ m + n
  | 0, m => by simp [manyF]
  | n + 1, m => by
    have := manyF_le P n (m + 1)
    unfold manyF; split <;> omega
theorem manyF_not (P : Nat → Bool) : ∀ n m k, m ≤ k → k < manyF P n m → P k = false
  | 0, m, k, h1, h2 => by simp [manyF] at h2; omega
  | n + 1, m, k, h1, h2 => by
    unfold manyF at h2
    split at h2
    · omega
    · rename_i hp
      by_cases e : k = m
      · subst e; simpa using hp
      · exact manyF_not P n (m + 1) k (by omega) h2
theorem manyF_is (P : Nat → Bool) : ∀ n m, manyF P n m < m + n → P (manyF P n m) = true
  | 0, m, h => by simp [manyF] at h
  | n + 1, m, h => by
    unfold manyF at h ⊢
    split
    · assumption
    · rename_i hp
      rw [if_neg hp] at h
      exact manyF_is P n (m + 1) (by omega)
def many (l : List (Int × Int)) (keep count bytes : Int) : Nat := manyF (fun m => decide (Stays l keep count bytes m)) (orderL keep l).length 0
theorem many_le (l : List (Int × Int)) (keep count bytes : Int) : many l keep count bytes ≤ (orderL keep l).length := by
  have := manyF_le (fun m => decide (Stays l keep count bytes m)) (orderL keep l).length 0
  unfold many; omega
theorem many_not {l : List (Int × Int)} {keep count bytes : Int} {k : Nat} (h : k < many l keep count bytes) : ¬ Stays l keep count bytes k := by
  have := manyF_not (fun m => decide (Stays l keep count bytes m)) (orderL keep l).length 0 k (by omega) h
  simpa using this
theorem many_is {l : List (Int × Int)} {keep count bytes : Int} (h : many l keep count bytes < (orderL keep l).length) : Stays l keep count bytes (many l keep count bytes) := by
  have := manyF_is (fun m => decide (Stays l keep count bytes m)) (orderL keep l).length 0 (by unfold many at h; omega)
  exact of_decide_eq_true this
/-- The step of both loops. -/
theorem many_step {l : List (Int × Int)} {keep count bytes : Int} {m : Nat} (h : m ≤ many l keep count bytes) : m < many l keep count bytes ↔ m < (orderL keep l).length ∧ ¬ Stays l keep count bytes m := by
  constructor
  · intro q
    exact ⟨Nat.lt_of_lt_of_le q (many_le _ _ _ _), many_not q⟩
  · rintro ⟨q1, q2⟩
    by_cases e : m = many l keep count bytes
    · rw [e] at q1 q2; exact absurd (many_is q1) q2
    · omega
/-- The victims. -/
def victimsL (l : List (Int × Int)) (keep count bytes : Int) : List Int := ((orderL keep l).map (·.1)).take (many l keep count bytes)
theorem victimsL_length (l : List (Int × Int)) (keep count bytes : Int) : (victimsL l keep count bytes).length = many l keep count bytes := by
  have := many_le l keep count bytes
  unfold victimsL; simp; omega
/-- A key more. -/
def addT (T : List Int) (k : Int) : List Int := if k ∈ T then T else T ++ [k]
/-- The keys of a map to which all slots were added. -/
def seenL (T : List Int) : List Int → List Int
  | [] => T
  | x :: xs => seenL (addT T x) xs
theorem seenL_append (T : List Int) (a b : List Int) : seenL T (a ++ b) = seenL (seenL T a) b := by
  induction a generalizing T with
  | nil => rfl
  | cons x a ih => exact ih _
theorem addT_length (T : List Int) (k : Int) : (addT T k).length ≤ T.length + 1 := by unfold addT; split <;> simp
theorem seenL_le (T xs : List Int) : (seenL T xs).length ≤ T.length + xs.length := by
  induction xs generalizing T with
  | nil => simp [seenL]
  | cons x xs ih =>
    have h1 := ih (addT T x)
    have h2 := addT_length T x
    simp only [seenL, List.length_cons]; omega
theorem seenL_eq (T xs : List Int) : (seenL T xs).length = T.length + xs.length ↔ xs.Nodup ∧ ∀ x ∈ xs, x ∉ T := by
  induction xs generalizing T with
  | nil => simp [seenL]
  | cons x xs ih =>
    simp only [seenL, List.length_cons]
    have h1 := seenL_le (addT T x) xs
    have h2 := ih (addT T x)
    by_cases hx : x ∈ T
    · have e : addT T x = T := by unfold addT; rw [if_pos hx]
      rw [e] at h1 ⊢
      constructor
      · intro q; omega
      · rintro ⟨_, q⟩; exact absurd hx (q x (by simp))
    · have e : addT T x = T ++ [x] := by unfold addT; rw [if_neg hx]
      rw [e] at h1 h2 ⊢
      have e2 : (T ++ [x]).length = T.length + 1 := by simp
      rw [e2] at h2
      rw [show T.length + (xs.length + 1) = T.length + 1 + xs.length by omega, h2, List.nodup_cons]
      constructor
      · rintro ⟨q1, q2⟩
        refine ⟨⟨fun q => (q2 x q) (by simp), q1⟩, fun y hy => ?_⟩
        rcases List.mem_cons.1 hy with rfl | hy
        · exact hx
        · exact fun q => q2 y hy (by simp [q])
      · rintro ⟨⟨q0, q1⟩, q2⟩
        refine ⟨q1, fun y hy q => ?_⟩
        rcases List.mem_append.1 q with q | q
        · exact q2 y (by simp [hy]) q
        · have : y = x := by simpa using q
          subst this; exact q0 hy
theorem seenL_nodup (xs : List Int) : (seenL [] xs).length = xs.length ↔ xs.Nodup := by
  have := seenL_eq [] xs
  simpa using this
/-- The first difference of two lists. -/
def firstL : List Int → List Int → Int → Int
  | [], [], _ => -1
  | x :: a, y :: b, i => if x = y then firstL a b (i + 1) else i
  | _, _, i => i
theorem firstL_same : ∀ (a : List Int) (i : Int), firstL a a i = -1
  | [], _ => rfl
  | x :: a, i => by unfold firstL; rw [if_pos rfl]; exact firstL_same a (i + 1)
theorem firstL_take : ∀ (a : List Int) (k : Nat) (i : Int), k < a.length → firstL a (a.take k) i = i + k
  | [], k, i, h => by simp at h
  | x :: a, 0, i, h => by simp [firstL]
  | x :: a, k + 1, i, h => by
    rw [List.take_succ_cons]
    unfold firstL; rw [if_pos rfl, firstL_take a k (i + 1) (by simpa using h)]; omega
/-- The step of the loops that look for the first difference. -/
theorem firstL_step : ∀ (a b : List Int) (m : Nat) (i : Int), a.take m = b.take m → m ≤ a.length → m ≤ b.length → firstL a b i = firstL (a.drop m) (b.drop m) (i + m)
  | a, b, 0, i, _, _, _ => by simp
  | [], b, m + 1, i, _, h, _ => by simp at h
  | a, [], m + 1, i, _, _, h => by simp at h
  | x :: a, y :: b, m + 1, i, h, h1, h2 => by
    obtain ⟨rfl, h3⟩ : x = y ∧ a.take m = b.take m := by simpa using h
    have := firstL_step a b m (i + 1) h3 (by simpa using h1) (by simpa using h2)
    rw [List.drop_succ_cons, List.drop_succ_cons]
    show (if x = x then firstL a b (i + 1) else i) = _
    rw [if_pos rfl, this]; congr 1; omega
/-- Where the lists part. -/
theorem firstL_at {a b : List Int} {m : Nat} (h : a.take m = b.take m) (h1 : m ≤ a.length) (h2 : m ≤ b.length) :
    (m = a.length ∧ m = b.length → firstL a b 0 = -1) ∧ (m = a.length ∧ m < b.length → firstL a b 0 = m) ∧ (m < a.length ∧ m = b.length → firstL a b 0 = m) ∧
    (∀ x y, a[m]? = some x → b[m]? = some y → x ≠ y → firstL a b 0 = m) := by
  have hs := firstL_step a b m 0 h h1 h2
  rw [hs]
  refine ⟨fun ⟨q1, q2⟩ => ?_, fun ⟨q1, q2⟩ => ?_, fun ⟨q1, q2⟩ => ?_, fun x y hx hy hne => ?_⟩
  · rw [List.drop_of_length_le (by omega), List.drop_of_length_le (by omega)]; rfl
  · rw [List.drop_of_length_le (by omega : a.length ≤ m), List.drop_eq_getElem_cons q2]; simp [firstL]
  · rw [List.drop_of_length_le (by omega : b.length ≤ m), List.drop_eq_getElem_cons q1]; simp [firstL]
  · obtain ⟨ha, rfl⟩ := List.getElem?_eq_some_iff.1 hx
    obtain ⟨hb, rfl⟩ := List.getElem?_eq_some_iff.1 hy
    rw [List.drop_eq_getElem_cons ha, List.drop_eq_getElem_cons hb]
    simp only [firstL]; rw [if_neg hne]; omega
theorem take_succ_eq {a b : List Int} {m : Nat} {x : Int} (h : a.take m = b.take m) (ha : a[m]? = some x) (hb : b[m]? = some x) : a.take (m + 1) = b.take (m + 1) := by
  rw [List.take_add_one, List.take_add_one, ha, hb, h]
end Go.Proofs.Yteibleghnadelaa
