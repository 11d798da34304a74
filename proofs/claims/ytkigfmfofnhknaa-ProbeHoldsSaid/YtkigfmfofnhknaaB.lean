/-
  Contracts of cubbyholeref06.At, All, Index and Same: the elements of a probe sequence, the sequence as a list in memory of the call's own, an index in it, and whether two lists of numbers are equal.
-/
import Derived.Test.YtkigfmfofnhknaaA
import Derived.OwnWalk
import Derived.Maps.AppendAt
namespace Go.Proofs.Ytkigfmfofnhknaa
open Go.ChangeShapes Go.WideShapes Go.ChangeAt Go.RowKit
set_option linter.unusedVariables false

theorem refAt_value (p g : Int) (i : Int) (hg : 0 < g) : (p % g + i * (i + 1) / 2 % g) % g = pat p g i := by
  unfold pat; rw [← Int.add_emod]

theorem refAt_any (p g i : Int) (p0 : 0 ≤ p) (p1 : p < 18446744073709551616) (w : World) :
    Calls Try.prog 8 #[.int .u64 p, .int .i64 g, .int .i64 i] w fun e w' => e = .returned (.tuple #[.int .i64 (atOf p g i), .int .i64 (errOf g i)]) ∧ Below w.heap.size w w' := by
  by_cases hv : validB g = true
  · have hg := valid_bounds hv
    by_cases h0 : i < 0
    · have HE := Lib.hid (show errOf g i = 3 from by unfold errOf; rw [if_pos hv, if_pos (by omega)])
      have HF := Lib.hid (show atOf p g i = 0 from by unfold atOf; rw [HE.out, if_neg (by omega)])
      go_enter Try.func8, Try.ntmps8
      go_wp2_with (first | (go_at_call 10; refine (refValid_any g _).mono ?_; rintro e w' ⟨rfl, rfl⟩))
      go_ret2
      exact ⟨ret_two HF.out.symm HE.out.symm, Below.refl _ _⟩
    · by_cases h1 : g ≤ i
      · have HE := Lib.hid (show errOf g i = 3 from by unfold errOf; rw [if_pos hv, if_pos (by omega)])
        have HF := Lib.hid (show atOf p g i = 0 from by unfold atOf; rw [HE.out, if_neg (by omega)])
        go_enter Try.func8, Try.ntmps8
        go_wp2_with (first | (go_at_call 10; refine (refValid_any g _).mono ?_; rintro e w' ⟨rfl, rfl⟩))
        go_ret2
        exact ⟨ret_two HF.out.symm HE.out.symm, Below.refl _ _⟩
      · have HE := Lib.hid (show errOf g i = 0 from by unfold errOf; rw [if_pos hv, if_neg (by omega)])
        have HF := Lib.hid (show (p % g + i * (i + 1) / 2 % g) % g = atOf p g i from by unfold atOf; rw [HE.out, if_pos rfl]; exact refAt_value p g i (by omega))
        obtain ⟨n, rfl⟩ := Int.eq_ofNat_of_zero_le (show 0 ≤ i by omega)
        obtain ⟨t0, t1⟩ := tri_bounds n g.toNat (by omega) (by omega)
        have hp := Int.emod_lt_of_pos p (show 0 < g by omega)
        have hp0 := Int.emod_nonneg p (show g ≠ 0 by omega)
        have hq := Int.emod_lt_of_pos ((n : Int) * ((n : Int) + 1) / 2) (show 0 < g by omega)
        have hq0 := Int.emod_nonneg ((n : Int) * ((n : Int) + 1) / 2) (show g ≠ 0 by omega)
        have hr := Int.emod_lt_of_pos (p % g + (n : Int) * ((n : Int) + 1) / 2 % g) (show 0 < g by omega)
        have hr0 := Int.emod_nonneg (p % g + (n : Int) * ((n : Int) + 1) / 2 % g) (show g ≠ 0 by omega)
        have hgz : ¬ g = 0 := by omega
        go_enter Try.func8, Try.ntmps8
        go_wp2_with (first | (go_at_call 10; refine (refValid_any g _).mono ?_; rintro e w' ⟨rfl, rfl⟩))
        go_quiet (fail)
        go_wp2
        go_ret2
        exact ⟨ret_two (by rw [← HF.out, refAt_value p g n (by omega)]; exact IntWalk.wrap64_in _ (by have := pat_range p (show 0 < g by omega) n; unfold pat at *; omega)) HE.out.symm, below_drewN (Below.refl _ _) _⟩
  · have hv' : validB g = false := by simpa using hv
    have HE := Lib.hid (show errOf g i = 2 from by unfold errOf; rw [if_neg hv])
    have HF := Lib.hid (show atOf p g i = 0 from by unfold atOf; rw [HE.out, if_neg (by omega)])
    clear hv
    go_enter Try.func8, Try.ntmps8
    go_wp2_with (first | (go_at_call 10; refine (refValid_any g _).mono ?_; rintro e w' ⟨rfl, rfl⟩))
    go_ret2
    exact ⟨ret_two HF.out.symm HE.out.symm, Below.refl _ _⟩

theorem info3 : (Try.prog.info? 3).map (fun i => (i.zero, i.size, i.bytes)) = some (some (.int .i64 0), 1, 8) := by kernel_rfl

/-- The first elements of a probe sequence. -/
def upto (p g : Int) (n : Nat) : List Int := (List.range n).map fun i : Nat => pat p g i
theorem upto_succ (p g : Int) (n : Nat) : upto p g (n + 1) = upto p g n ++ [pat p g n] := by unfold upto; rw [List.range_succ, List.map_append]; rfl
theorem upto_length (p g : Int) (n : Nat) : (upto p g n).length = n := by simp [upto]
/-- The probe sequence. -/
def seqOf (p g : Int) : List Int := if validB g then upto p g g.toNat else []

theorem tri_succ (n : Nat) : (n : Int) * ((n : Int) - 1) / 2 + n = (n : Int) * ((n : Int) + 1) / 2 := by
  have : (n : Int) * ((n : Int) + 1) = (n : Int) * ((n : Int) - 1) + 2 * n := by
    rw [Int.mul_add, Int.mul_sub]; omega
  rw [this]; omega
/-- What the reference holds before the round with a number. -/
def before (p g : Int) (n : Nat) : Int := (p + (n : Int) * ((n : Int) - 1) / 2) % g
theorem before_zero (p g : Int) : before p g 0 = p % g := by simp [before]
theorem before_step (p g : Int) (n : Nat) : (before p g n + n) % g = pat p g n := by
  unfold before pat
  rw [Int.emod_add_emod, Int.add_assoc, tri_succ]
theorem before_succ (p g : Int) (n : Nat) : before p g (n + 1) = pat p g n := by
  unfold before pat
  have : ((n + 1 : Nat) : Int) - 1 = n := by omega
  rw [this, Int.mul_comm]
  rfl
theorem before_range (p : Int) {g : Int} (hg : 0 < g) (n : Nat) : 0 ≤ before p g n ∧ before p g n < g :=
  ⟨Int.emod_nonneg _ (by omega), Int.emod_lt_of_pos _ hg⟩

set_option maxHeartbeats 1000000 in
theorem refAll_any (p g : Int) (p0 : 0 ≤ p) (p1 : p < 18446744073709551616) (w : World) :
    Calls Try.prog 14 #[.int .u64 p, .int .i64 g] w fun e w' => ∃ v, e = .returned v ∧ w'.ownsRow w.heap.size 3 1 v (seqOf p g).length ((seqOf p g).map (Value.int .i64)) ∧ Below w.heap.size w w' := by
  by_cases hv : validB g = true
  · have hg := valid_bounds hv
    have HS := Lib.hid (show upto p g g.toNat = seqOf p g from by unfold seqOf; rw [if_pos hv])
    obtain ⟨i0, hi, hz0, hz1, hz2⟩ := info_parts info3
    have hp := Int.emod_lt_of_pos p (show 0 < g by omega)
    have hp0 := Int.emod_nonneg p (show g ≠ 0 by omega)
    have hgz : ¬ g = 0 := by omega
    go_enter Try.func14, Try.ntmps14
    go_wp2_with (first | (go_at_call 10; refine (refValid_any g _).mono ?_; rintro e w' ⟨rfl, rfl⟩))
    go_loopw [5, 6, 7] (fun a v i wr => ∃ k : Nat, (k : Int) ≤ g ∧ i = .int .i64 k ∧ a = .int .i64 (before p g k) ∧ wr.ownsRow w.heap.size 3 1 v k ((upto p g k).map (Value.int .i64)) ∧ Below w.heap.size w wr)
      (fun _ _ i _ => g.toNat - (intOf i).toNat)
    case atStart => exact ⟨0, by omega, rfl, by rw [before_zero], World.ownsRow_nil _ _ _ _, Below.refl _ _⟩
    case round =>
      obtain ⟨k, hk, rfl, rfl, hown, hbel⟩ := hrel
      have hb := before_range p (show 0 < g by omega) k
      by_cases hlt : (k : Int) < g
      · have HB := Lib.hid (before_step p g k)
        have HB2 := Lib.hid (before_succ p g k)
        have HU := Lib.hid (upto_succ p g k)
        have hsz := hbel.size
        generalize before p g k = x at *
        go_wp2_with (first
          | (at_builtin; refine wpList_append_own _ rfl _ _ 31 rfl w.heap.size 3 i0 (.int .i64 0) 1 8 Try.underlying31 hi hz0 hz1 hz2 rfl (by decide) _ _ _ rfl (hown.alloc _) ⟨wr.heap.size, 0, none⟩ 1 1 [.int .i64 ((x + k) % g)] rfl rfl (cell_one_new _ _ _) (by simp [Value.oneCell']) (by unfold maxLen; omega) (by omega) (by simp; omega) ?_; intro v' w1 hown' hgrow _))
        go_roundw
        case rel =>
          refine ⟨k + 1, by omega, by go_num, by rw [HB2.out, HB.out], ?_, ?_⟩
          · rw [HU.out, List.map_append, ← HB.out]; exact hown'
          · exact (hbel.alloc hsz _).grown hgrow (by simp; omega) (fun j e => ((hown.alloc (Obj.cells #[Value.int .i64 ((x + k) % g)] 3)).lt j e).1)
        case measure => simp [intOf]; omega
      · have HK := Lib.hid (show k = g.toNat from by omega)
        clear hk
        go_wp2_with fail
        go_ret
        have hl := upto_length p g k
        refine ⟨_, rfl, ?_, hbel⟩
        rw [← HS.out, ← HK.out, hl]; exact hown
  · have hv' : validB g = false := by simpa using hv
    have HS := Lib.hid (show seqOf p g = [] from by unfold seqOf; rw [if_neg hv])
    clear hv
    go_enter Try.func14, Try.ntmps14
    go_wp2_with (first | (go_at_call 10; refine (refValid_any g _).mono ?_; rintro e w' ⟨rfl, rfl⟩))
    go_ret
    exact ⟨_, rfl, by rw [HS.out]; exact World.ownsRow_nil _ _ _ _, Below.refl _ _⟩
/-- A slice value reads, in blocks below B, as a list of numbers. -/
def Ints (B : Nat) (w : World) (v : Value) (xs : List Int) : Prop :=
  ∃ A c, v = .slice A xs.length c ∧ ∀ k, k < xs.length → ∃ g o y, A = some ⟨g, o, none⟩ ∧ g < B ∧ xs[k]? = some y ∧ w.cell? ⟨g, o + k, none⟩ = some (.int .i64 y)
theorem Ints.below {B B' : Nat} {w w' : World} {v : Value} {xs : List Int} (h : Ints B w v xs) (hb : Below B w w') (hB : B ≤ B') : Ints B' w' v xs := by
  obtain ⟨A, c, hv, hc⟩ := h
  refine ⟨A, c, hv, fun k hk => ?_⟩
  obtain ⟨g, o, y, hA, hg, hy, hcell⟩ := hc k hk
  exact ⟨g, o, y, hA, by omega, hy, (hb.cell (p := ⟨g, o + k, none⟩) hg).trans hcell⟩
theorem Ints.of_own {w : World} {base : Nat} {e : TypeId} {v : Value} {n : Nat} {xs : List Int} (h : w.ownsRow base e 1 v n (xs.map (Value.int .i64))) : Ints w.heap.size w v xs := by
  have hl : xs.length = n := by have := h.1; simpa using this
  subst hl
  have hlt := h.lt
  have hcs := fun g hg => h.cells (g := g) hg
  rcases h.2 with ⟨rfl, h0⟩ | ⟨g, cap, cur, rfl, _⟩
  · have : xs = [] := by simpa using h0
    subst this
    exact ⟨none, 0, rfl, fun k hk => by simp at hk⟩
  · refine ⟨some ⟨g, 0, none⟩, cap, rfl, fun k hk => ⟨g, 0, xs[k], rfl, (hlt g rfl).2, List.getElem?_eq_getElem hk, ?_⟩⟩
    have := hcs g rfl k (.int .i64 xs[k]) (by simp [List.getElem?_eq_getElem hk])
    rw [← this]
    congr 1
    unfold Addr.add
    split
    · simp_all
    · simp

/-- The first places of two lists hold equal numbers. -/
def SameTo (xs ys : List Int) (k : Nat) : Prop := ∀ j, j < k → xs[j]? = ys[j]?
theorem sameTo_all {xs ys : List Int} (hl : xs.length = ys.length) (h : SameTo xs ys xs.length) : xs = ys := by
  apply List.ext_getElem? ; intro j
  rcases Nat.lt_or_ge j xs.length with hj | hj
  · exact h j hj
  · rw [List.getElem?_eq_none hj, List.getElem?_eq_none (by omega)]

set_option maxHeartbeats 1000000 in
theorem same_any (v1 v2 : Value) (xs ys : List Int) (w : World) (h1 : Ints w.heap.size w v1 xs) (h2 : Ints w.heap.size w v2 ys) (hm : xs.length ≤ 9223372036854775807) :
    Calls Try.prog 19 #[v1, v2] w fun e w' => e = .returned (.bool (decide (xs = ys))) ∧ Below w.heap.size w w' := by
  obtain ⟨A, c, rfl, hA⟩ := h1
  obtain ⟨A', c', rfl, hA'⟩ := h2
  by_cases hl : xs.length = ys.length
  · have hq : ((xs.length : Int) != (ys.length : Int)) = false := by rw [hl]; simp
    have HL := Lib.hid hl
    have hly : ys.length ≤ xs.length := by omega
    have hlx : xs.length ≤ ys.length := by omega
    clear hl
    have HA := Lib.hid hA
    have HA' := Lib.hid hA'
    clear hA hA'
    go_enter Try.func19, Try.ntmps19
    go_wp2
    go_loopw [5] (fun i wr => ∃ k : Nat, k ≤ xs.length ∧ i = .int .i64 k ∧ SameTo xs ys k ∧ ∃ n, wr = w.drewN n) (fun i _ => xs.length - (intOf i).toNat)
    case atStart => exact ⟨0, by omega, rfl, fun j hj => absurd hj (by omega), 0, rfl⟩
    case round =>
      obtain ⟨k, hk, rfl, hsame, n, rfl⟩ := hrel
      have HSame := Lib.hid hsame
      clear hsame
      by_cases hlt : k < xs.length
      · obtain ⟨g, o, y, rfl, hg, hy, hc⟩ := HA.out k hlt
        obtain ⟨g', o', y', rfl, hg', hy', hc'⟩ := HA'.out k (by omega)
        have i0 : (0 : Int) ≤ (k : Int) := by omega
        have i1 : (k : Int) < (xs.length : Int) := by omega
        have i2 : (k : Int) < (ys.length : Int) := by omega
        have HY := Lib.hid hy
        have HY' := Lib.hid hy'
        clear hy hy'
        by_cases he : y = y'
        · have hne : (y != y') = false := by rw [he]; simp
          have HE := Lib.hid he
          clear he
          go_wp2
          go_quiet (fail)
          go_wp2
          go_roundw
          case rel => exact ⟨k + 1, by omega, by go_num, fun j hj => by
            rcases Nat.lt_or_ge j k with h | h
            · exact HSame.out j h
            · obtain rfl : j = k := by omega
              rw [HY.out, HY'.out, HE.out], _, by first | rfl | (rw [World.drewN_drewN])⟩
          case measure => simp [intOf]; omega
        · have hne : (y != y') = true := by rw [bne_iff_ne]; exact he
          have HF := Lib.hid (show false = decide (xs = ys) from by
            symm; rw [decide_eq_false_iff_not]; rintro rfl; rw [HY.out] at HY'; exact he (by injection HY'.out))
          clear he
          go_wp2
          go_quiet (fail)
          go_wp2
          go_ret
          exact ⟨ret_bool HF.out, below_drewN (below_drewN (Below.refl _ _) _) _⟩
      · have HF := Lib.hid (show true = decide (xs = ys) from by
          symm; rw [decide_eq_true_iff]
          exact sameTo_all HL.out (fun j hj => HSame.out j (by omega)))
        go_wp2
        go_ret
        exact ⟨ret_bool HF.out, below_drewN (Below.refl _ _) _⟩
  · have hq : ((xs.length : Int) != (ys.length : Int)) = true := by rw [bne_iff_ne]; omega
    have HF := Lib.hid (show false = decide (xs = ys) from by
      symm; rw [decide_eq_false_iff_not]; rintro rfl; exact hl rfl)
    clear hl
    go_enter Try.func19, Try.ntmps19
    go_wp2
    go_ret
    exact ⟨ret_bool HF.out, Below.refl _ _⟩
end Go.Proofs.Ytkigfmfofnhknaa
