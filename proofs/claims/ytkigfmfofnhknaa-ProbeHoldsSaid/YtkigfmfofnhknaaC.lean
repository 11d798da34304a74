/-
  Plain laws: a probe sequence over a power of two of groups has every group just once. Then the contract of cubbyholeref06.Index.
-/
import Derived.Test.YtkigfmfofnhknaaB
namespace Go.Proofs.Ytkigfmfofnhknaa
open Go.ChangeShapes Go.WideShapes Go.ChangeAt Go.RowKit
set_option linter.unusedVariables false

/-- A map of the numbers below n into themselves that gives no number twice gives each. -/
theorem hits (n : Nat) : ∀ (f : Nat → Nat), (∀ i, i < n → f i < n) → (∀ i j, i < n → j < n → f i = f j → i = j) → ∀ x, x < n → ∃ i, i < n ∧ f i = x := by
  induction n with
  | zero => intro f _ _ x hx; omega
  | succ n ih =>
    intro f hr hi x hx
    by_cases hxn : x = n
    · subst hxn
      apply Classical.byContradiction
      intro hno
      have hlt : ∀ i, i < x + 1 → f i < x := by
        intro i hin
        have := hr i hin
        rcases Nat.lt_or_ge (f i) x with h | h
        · exact h
        · exact absurd ⟨i, hin, by omega⟩ hno
      obtain ⟨i, hix, he⟩ := ih f (fun i h => hlt i (by omega)) (fun i j h k e => hi i j (by omega) (by omega) e) (f x) (hlt x (by omega))
      have := hi i x (by omega) (by omega) he
      omega
    · obtain ⟨i, hin, he⟩ := ih (fun i => if f i = n then f n else f i) (by
          intro i hin
          have h1 := hr i (by omega)
          have h2 := hr n (by omega)
          show (if f i = n then f n else f i) < n
          by_cases h : f i = n
          · rw [if_pos h]
            rcases Nat.lt_or_ge (f n) n with h3 | h3
            · exact h3
            · have := hi i n (by omega) (by omega) (by omega)
              omega
          · rw [if_neg h]; omega) (by
          intro i j hin hjn e
          replace e : (if f i = n then f n else f i) = (if f j = n then f n else f j) := e
          by_cases h : f i = n
          · by_cases h' : f j = n
            · exact hi i j (by omega) (by omega) (by omega)
            · rw [if_pos h, if_neg h'] at e
              have := hi n j (by omega) (by omega) e
              omega
          · by_cases h' : f j = n
            · rw [if_neg h, if_pos h'] at e
              have := hi i n (by omega) (by omega) e
              omega
            · rw [if_neg h, if_neg h'] at e
              exact hi i j (by omega) (by omega) e) x (by omega)
      replace he : (if f i = n then f n else f i) = x := he
      by_cases h : f i = n
      · rw [if_pos h] at he; exact ⟨n, by omega, he⟩
      · rw [if_neg h] at he; exact ⟨i, by omega, he⟩

/-- A power of two that divides a product of which one factor is odd divides the other one. -/
theorem odd_coprime (k : Nat) : ∀ (a b : Int), a % 2 = 1 → ((2 ^ k : Nat) : Int) ∣ a * b → ((2 ^ k : Nat) : Int) ∣ b := by
  induction k with
  | zero => intro a b _ _; simp
  | succ k ih =>
    intro a b ha hd
    obtain ⟨c, hc⟩ := hd
    have h2 : ((2 ^ (k + 1) : Nat) : Int) = 2 * ((2 ^ k : Nat) : Int) := by rw [Nat.pow_succ]; omega
    have hb : b % 2 = 0 := by
      have h3 : (a * b) % 2 = 0 := by rw [hc, h2, Int.mul_assoc]; exact Int.mul_emod_right 2 _
      rw [Int.mul_emod, ha] at h3
      omega
    obtain ⟨d, hd⟩ : ∃ d, b = 2 * d := ⟨b / 2, by omega⟩
    have h4 : ((2 ^ k : Nat) : Int) ∣ a * d := by
      refine ⟨c, ?_⟩
      rw [hd, h2, Int.mul_assoc, Int.mul_left_comm] at hc
      omega
    obtain ⟨e, he⟩ := ih a d ha h4
    exact ⟨e, by rw [hd, he, h2, Int.mul_assoc]⟩

theorem tri_eq (i : Nat) : 2 * ((i : Int) * ((i : Int) + 1) / 2) = (i : Int) * ((i : Int) + 1) := by
  have h : ((i : Int) * ((i : Int) + 1)) % 2 = 0 := by
    rw [Int.mul_emod]
    have h2 : (i : Int) % 2 = 0 ∨ (i : Int) % 2 = 1 := by omega
    rcases h2 with h2 | h2
    · rw [h2]; simp
    · have h3 : ((i : Int) + 1) % 2 = 0 := by omega
      rw [h2, h3]; rfl
  omega

theorem pat_inj_lt (p : Int) (k : Nat) (i j : Nat) (hij : i < j) (hj : j < 2 ^ k) : pat p ((2 ^ k : Nat) : Int) i ≠ pat p ((2 ^ k : Nat) : Int) j := by
  intro h
  unfold pat at h
  have hd : ((2 ^ k : Nat) : Int) ∣ (p + (j : Int) * ((j : Int) + 1) / 2) - (p + (i : Int) * ((i : Int) + 1) / 2) := Int.dvd_of_emod_eq_zero (Int.emod_eq_emod_iff_emod_sub_eq_zero.1 h.symm)
  obtain ⟨c, hc⟩ := hd
  have h2 : ((2 ^ (k + 1) : Nat) : Int) = 2 * ((2 ^ k : Nat) : Int) := by rw [Nat.pow_succ]; omega
  have hi2 := tri_eq i
  have hj2 := tri_eq j
  have hprod : ((j : Int) - i) * ((j : Int) + i + 1) = (j : Int) * ((j : Int) + 1) - (i : Int) * ((i : Int) + 1) := by
    simp only [Int.sub_mul, Int.mul_add, Int.mul_one, Int.mul_comm (i : Int) (j : Int)]; omega
  have hdiv : ((2 ^ (k + 1) : Nat) : Int) ∣ ((j : Int) - i) * ((j : Int) + i + 1) := by
    refine ⟨c, ?_⟩
    rw [hprod, h2, Int.mul_assoc, ← hc]
    omega
  rcases (show ((j : Int) - i) % 2 = 1 ∨ ((j : Int) + i + 1) % 2 = 1 by omega) with ho | ho
  · have := Int.le_of_dvd (by omega) (odd_coprime (k + 1) _ _ ho hdiv)
    omega
  · rw [Int.mul_comm] at hdiv
    have := Int.le_of_dvd (by omega) (odd_coprime (k + 1) _ _ ho hdiv)
    omega

theorem pat_inj (p : Int) {g : Int} (hv : validB g = true) (i j : Nat) (hi : (i : Int) < g) (hj : (j : Int) < g) (h : pat p g i = pat p g j) : i = j := by
  obtain ⟨k, hk, rfl⟩ := (validB_iff g).1 hv
  rcases Nat.lt_trichotomy i j with h1 | h1 | h1
  · exact absurd h (pat_inj_lt p k i j h1 (by omega))
  · exact h1
  · exact absurd h.symm (pat_inj_lt p k j i h1 (by omega))

theorem pat_hits (p : Int) {g : Int} (hv : validB g = true) (x : Int) (h0 : 0 ≤ x) (h1 : x < g) : ∃ k : Nat, (k : Int) < g ∧ pat p g k = x := by
  have hg := valid_bounds hv
  obtain ⟨k, hk, he⟩ := hits g.toNat (fun i => (pat p g i).toNat) (fun i _ => by
      have := pat_range p (show 0 < g by omega) i
      show (pat p g i).toNat < g.toNat
      omega) (fun i j hi hj e => pat_inj p hv i j (by omega) (by omega) (by
      have h2 := pat_range p (show 0 < g by omega) i
      have h3 := pat_range p (show 0 < g by omega) j
      replace e : (pat p g i).toNat = (pat p g j).toNat := e
      omega)) x.toNat (by omega)
  have := pat_range p (show 0 < g by omega) k
  replace he : (pat p g k).toNat = x.toNat := he
  exact ⟨k, by omega, by omega⟩

/-- Index's first result. -/
def indexOf (p g x : Int) : Int := if errOf g x = 0 then ((((List.range g.toNat).find? fun i : Nat => pat p g i == x).getD 0 : Nat) : Int) else 0
theorem indexOf_eq {p g x : Int} (hv : validB g = true) {k : Nat} (hk : (k : Int) < g) (hx : pat p g k = x) : indexOf p g x = k := by
  have hg := valid_bounds hv
  have hr := pat_range p (show 0 < g by omega) k
  have he : errOf g x = 0 := by unfold errOf; rw [if_pos hv, if_neg (by omega)]
  unfold indexOf
  rw [if_pos he]
  cases hf : (List.range g.toNat).find? fun i : Nat => pat p g i == x with
  | none =>
    rw [List.find?_eq_none] at hf
    have := hf k (by rw [List.mem_range]; omega)
    simp [hx] at this
  | some i =>
    have h1 := List.find?_some hf
    have h2 := List.mem_of_find?_eq_some hf
    rw [List.mem_range] at h2
    simp only [beq_iff_eq] at h1
    have := pat_inj p hv i k (by omega) hk (by rw [h1, hx])
    rw [this]; rfl
theorem upto_getElem (p g : Int) (n k : Nat) (hk : k < n) : (upto p g n)[k]? = some (pat p g k) := by
  unfold upto; simp [List.getElem?_map, List.getElem?_range hk]

set_option maxHeartbeats 1000000 in
theorem refIndex_any (p g x : Int) (p0 : 0 ≤ p) (p1 : p < 18446744073709551616) (w : World) :
    Calls Try.prog 15 #[.int .u64 p, .int .i64 g, .int .i64 x] w fun e w' => e = .returned (.tuple #[.int .i64 (indexOf p g x), .int .i64 (errOf g x)]) ∧ Below w.heap.size w w' := by
  by_cases hv : validB g = true
  · have hg := valid_bounds hv
    by_cases h0 : x < 0
    · have HE := Lib.hid (show errOf g x = 3 from by unfold errOf; rw [if_pos hv, if_pos (by omega)])
      have HF := Lib.hid (show indexOf p g x = 0 from by unfold indexOf; rw [HE.out, if_neg (by omega)])
      go_enter Try.func15, Try.ntmps15
      go_wp2_with (first | (go_at_call 10; refine (refValid_any g _).mono ?_; rintro e w' ⟨rfl, rfl⟩))
      go_ret2
      exact ⟨ret_two HF.out.symm HE.out.symm, Below.refl _ _⟩
    · by_cases h1 : g ≤ x
      · have HE := Lib.hid (show errOf g x = 3 from by unfold errOf; rw [if_pos hv, if_pos (by omega)])
        have HF := Lib.hid (show indexOf p g x = 0 from by unfold indexOf; rw [HE.out, if_neg (by omega)])
        go_enter Try.func15, Try.ntmps15
        go_wp2_with (first | (go_at_call 10; refine (refValid_any g _).mono ?_; rintro e w' ⟨rfl, rfl⟩))
        go_ret2
        exact ⟨ret_two HF.out.symm HE.out.symm, Below.refl _ _⟩
      · have HE := Lib.hid (show errOf g x = 0 from by unfold errOf; rw [if_pos hv, if_neg (by omega)])
        obtain ⟨n, hn, hx⟩ := pat_hits p hv x (by omega) (by omega)
        have HI := Lib.hid (indexOf_eq hv hn hx)
        have HV := Lib.hid hv
        have HX := Lib.hid hx
        have HSeq := Lib.hid (show seqOf p g = upto p g g.toNat from by unfold seqOf; rw [if_pos hv])
        clear hx
        go_enter Try.func15, Try.ntmps15
        go_wp2_with (first | (go_at_call 10; refine (refValid_any g _).mono ?_; rintro e w' ⟨rfl, rfl⟩))
        refine (refAll_any p g p0 p1 _).mono ?_
        rintro e W ⟨v, rfl, hown, hbel⟩
        have hI := Ints.of_own hown
        rw [HSeq.out] at hI
        obtain ⟨A, c, rfl, hA⟩ := hI
        rw [upto_length] at *
        have HA := Lib.hid hA
        clear hA hown
        go_wp2
        go_loop [9] (fun i => ∃ k : Nat, k ≤ n ∧ i = .int .i64 k) (fun i => n + 1 - (intOf i).toNat)
        case atStart => exact ⟨0, by omega, rfl⟩
        case round =>
          obtain ⟨k, hk, rfl⟩ := hrel
          obtain ⟨gb, o, y, rfl, hgb, hy, hc⟩ := HA.out k (by omega)
          rw [upto_getElem p g g.toNat k (by omega)] at hy
          obtain rfl : pat p g k = y := by injection hy
          clear hy
          by_cases hlt : k < n
          · have hne : (pat p g k == x) = false := by
              rw [beq_eq_false_iff_ne]; intro h
              have := pat_inj p HV.out k n (by omega) hn (by rw [h, HX.out])
              omega
            go_wp2
            go_round
            case rel => exact ⟨k + 1, by omega, by go_num⟩
            case measure => simp [intOf]; omega
          · have hkn : k = n := by omega
            have hne : (pat p g k == x) = true := by rw [hkn, HX.out]; simp
            have HK := Lib.hid hkn
            clear hkn
            go_wp2
            go_ret2
            exact ⟨ret_two (by rw [HI.out, HK.out]) HE.out.symm, hbel⟩
  · have hv' : validB g = false := by simpa using hv
    have HE := Lib.hid (show errOf g x = 2 from by unfold errOf; rw [if_neg hv])
    have HF := Lib.hid (show indexOf p g x = 0 from by unfold indexOf; rw [HE.out, if_neg (by omega)])
    clear hv
    go_enter Try.func15, Try.ntmps15
    go_wp2_with (first | (go_at_call 10; refine (refValid_any g _).mono ?_; rintro e w' ⟨rfl, rfl⟩))
    go_ret2
    exact ⟨ret_two HF.out.symm HE.out.symm, Below.refl _ _⟩
end Go.Proofs.Ytkigfmfofnhknaa
