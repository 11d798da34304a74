/-
  Contracts of probe.Index and of the law's own function 'index'.
-/
import Derived.Test.YtkigfmfofnhknaaD
namespace Go.Proofs.Ytkigfmfofnhknaa
open Go.ChangeShapes Go.WideShapes Go.ChangeAt Go.RowKit Go.Shelf
set_option linter.unusedVariables false
attribute [local go_sem] Oper.semAt_some

theorem errOf_range {g x : Int} (h : validB g = true) (h0 : 0 ≤ x) (h1 : x < g) : errOf g x = 0 := by unfold errOf; rw [if_pos h, if_neg (by omega)]

set_option maxRecDepth 100000 in
set_option maxHeartbeats 2000000 in
/-- Where the group is one of the sequence: the loop is left by its label at the group's index. -/
theorem Index_hit (p g x : Int) (p0 : 0 ≤ p) (p1 : p < 18446744073709551616) (hv : validB g = true) (x0 : 0 ≤ x) (x1 : x < g) (w : World) :
    Calls Try.prog 20 #[.int .u64 p, .int .i64 g, .int .i64 x] w fun e w' => e = .returned (.tuple #[.int .i64 (indexOf p g x), .int .i64 (errOf g x)]) ∧ Below w.heap.size w w' := by
  have hg := valid_bounds hv
  have b0 : -9223372036854775808 ≤ g := by omega
  have b1 : g ≤ 9223372036854775807 := by omega
  obtain ⟨n, hn, hx⟩ := pat_hits p hv x x0 x1
  have HI := Lib.hid (indexOf_eq hv hn hx)
  have HE := Lib.hid (errOf_range hv x0 x1)
  have he : (errOf g 0 != 0) = false := by rw [errOf_0 hv]; rfl
  have hex : (errOf g x != 0) = false := by rw [HE.out]; rfl
  have HX := Lib.hid hx
  have HV := Lib.hid hv
  clear hx hv
  refine (callsIn_wide (n := 4)).1 ?_
  refine callsIn_of_wp_marks Try.func20 rfl trivial ?_ rfl
  simp only [Try.ntmps20, List.size_toArray, List.length_cons, List.length_nil, Nat.reduceAdd, Nat.reduceSub, Array.replicate_succ, Array.replicate_zero, List.push_toArray, List.append_toArray, List.nil_append, List.cons_append]
  refine wpIn_wide.2 ?_
  go_wp2_with fail
  go_step3
  go_wp2_with (first
    | (go_at_call 17; refine (All_any p g b0 b1 _).mono ?_; rintro e w1 ⟨rfl, hbel, hsz, hm, hp, hgr⟩; simp only [World.size_alloc] at hbel hsz hm hp hgr; have hcx : w1.cell? ⟨w.heap.size, 0, none⟩ = some (.int .i64 x) := (hbel.cell (p := ⟨w.heap.size, 0, none⟩) (by show w.heap.size < _; omega)).trans (by simp [go_sem]))
    | (go_at_call 21; refine (check_any g x b0 b1 _).mono ?_; rintro e w' ⟨rfl, rfl⟩))
  go_step3
  go_wp2_with fail
  generalize hA : Act.mk _ _ = A0
  refine (wpIn_wide (n := 4)).1 ?_
  refine wpIn_rangeFunc_ownG rfl (by omega) (gf := 22) (lb := #[.pointer (some ⟨w.heap.size + 1 + 1 + 1, 0, none⟩), .pointer (some ⟨w.heap.size + 1, 0, none⟩), .pointer (some ⟨w.heap.size + 1 + 1, 0, none⟩)]) (by rw [← hA]; rfl) trivial (enters_of Try.func22 (by kernel_rfl) rfl)
    (iter_stops (4 - 1) (by omega) (w.heap.size + 1 + 1 + 1) (w.heap.size + 1) (w.heap.size + 1 + 1) w1.heap.size p g p0 p1 w1 (by omega) (by omega) (by omega) (Nat.le_refl _) hm hp hgr)
    belowK_t (belowK_b (by simp)) ((Below.refl _ _).alloc (by simp) _) (fun _ => rfl)
    (fun pre W => ((W.cell? ⟨w.heap.size + 1 + 3, 0, none⟩ = some (.int .i64 (pre.length : Nat)) ∧ W.frozen? ⟨w.heap.size + 1 + 3, 0, none⟩ = false) ∧ x ∉ pre) ∧ Below w1.heap.size w1 W)
    (fun c pre W => ((c = .exit 0 ∧ W.cell? ⟨w.heap.size + 1 + 3, 0, none⟩ = some (.int .i64 ((pre.length : Int) - 1))) ∧ (∃ q, pre = q ++ [x] ∧ x ∉ q)) ∧ Below w1.heap.size w1 W)
    (OwnFrom.and (OwnFrom.and (Own.from (fun s A B row hs hg hr => ⟨cell_kept hs.1 hg hr, (frozen_kept hs.1 hg hr).trans hs.2⟩) _) (ownFrom_pure _ _)) (ownFrom_below (Nat.le_refl _) (by simp)))
    (fun c => OwnFrom.and (OwnFrom.and (Own.from (fun s A B row hs hg hr => ⟨hs.1, cell_kept hs.2 hg hr⟩) _) (ownFrom_pure _ _)) (ownFrom_below (Nat.le_refl _) (by simp)))
    ⟨⟨⟨by rw [← hsz]; simp [go_sem], by rw [← hsz]; simp [go_sem]⟩, by simp⟩, (Below.refl _ _).alloc (Nat.le_refl _) _⟩
    (fun y => { tmps := (A0.tmps.setIfInBounds 29 (.int .i64 y)).setIfInBounds 12 (.int .i64 y), defers := [] }) ?assign ?body ?done ?stop
  case assign =>
    intro l y W K hK
    subst hA
    simp only [List.setIfInBounds_toArray, List.set_cons_zero, List.set_cons_succ] at hK
    gi_wp2
    exact hK
  case body =>
    rintro l pre y W ⟨⟨⟨hc, hf⟩, hno⟩, hB⟩ hlt
    have hcx' : W.cell? ⟨w.heap.size, 0, none⟩ = some (.int .i64 x) := (hB.cell (p := ⟨w.heap.size, 0, none⟩) (by show w.heap.size < _; omega)).trans hcx
    have HS := Lib.hid hsz
    have HN := Lib.hid hno
    rw [upto_length] at hlt
    have hlt' : pre.length < 1048577 := by
      rcases manyOf_ok g with h | ⟨_, h⟩ <;> omega
    clear hsz hno hcx hm hp hgr hlt
    subst hA
    simp only [List.setIfInBounds_toArray, List.set_cons_zero, List.set_cons_succ]
    by_cases hy : y = x
    · have hq : (y == x) = true := by rw [beq_iff_eq]; exact hy
      have HY := Lib.hid hy
      clear hy
      gi_wp2
      exact ⟨KeepsFrom.refl _ _, ⟨⟨rfl, by rw [hc]; simp⟩, pre, by rw [HY.out], HN.out⟩, hB⟩
    · have hq : (y == x) = false := by rw [beq_eq_false_iff_ne]; exact hy
      have HY := Lib.hid hy
      clear hy
      gi_wp2
      exact ⟨(KeepsOthers.setCell _ _ _).from _, (Below.refl _ _).setCell (by show _ ≤ w.heap.size + 1 + 3; rw [HS.out]; omega) _, ⟨⟨by rw [World.cell?_setCell_same' _ _ _ (by rw [hc]; rfl)]; simp, by rw [World.frozen?_setCell]; exact hf⟩, by
        intro hmem; rcases List.mem_append.1 hmem with h | h
        · exact HN.out h
        · exact HY.out (List.mem_singleton.1 h).symm⟩, hB.setCell (by show _ ≤ w.heap.size + 1 + 3; rw [HS.out]; omega) _⟩
  case done =>
    rintro D ys W hD rfl ⟨⟨_, hno⟩, _⟩ hK
    exfalso
    apply hno
    have hmany : manyOf g = g.toNat := by unfold manyOf; rw [if_pos HV.out]
    rw [hmany, ← HX.out]
    exact List.mem_map.2 ⟨n, by rw [List.mem_range]; omega, rfl⟩
  case stop =>
    rintro D c pre W hD hpre ⟨⟨⟨rfl, hc⟩, q, rfl, hq⟩, hB⟩ hK
    subst hA
    have hlen : q.length < manyOf g := by
      have := hpre.length_le
      rw [upto_length, List.length_append] at this
      simp at this; omega
    have hmg : (manyOf g : Int) ≤ g := by
      rcases manyOf_ok g with h | ⟨_, h⟩ <;> omega
    have hx' : pat p g q.length = x := by
      obtain ⟨r, hr⟩ := hpre
      have h1 := upto_getElem p g (manyOf g) q.length hlen
      rw [← hr] at h1
      simp at h1
      exact h1.symm
    have HL := Lib.hid (indexOf_eq HV.out (k := q.length) (by omega) hx')
    rw [show (((q ++ [x]).length : Int) - 1) = (q.length : Int) from by simp] at hc
    have HS := Lib.hid hsz
    have hbw : Below w.heap.size w W := (((Below.refl _ w).alloc (Nat.le_refl _) _).trans (hbel.mono (by omega))).trans (hB.mono (by omega))
    have hDs : w.heap.size ≤ D := by have := hD; simp at this; omega
    clear hlen hmg hx' hpre hsz hm hp hgr hcx hD
    gi_wp2
    go_wp2
    rw [Exit.noGoto_ret]
    refine ⟨by simp, .inl ⟨_, _, rfl, run_takeDeferred hK, ?_⟩⟩
    refine ⟨_, results_tmp2 rfl _ _ _, ?_⟩
    exact ⟨ret_two HL.out.symm HE.out.symm, hbw.trans (belowK_b (w := w) (Nat.le_refl _) W D _ _ hDs hK rfl rfl)⟩

theorem Index_any (p g x : Int) (p0 : 0 ≤ p) (p1 : p < 18446744073709551616) (b0 : -9223372036854775808 ≤ g) (b1 : g ≤ 9223372036854775807) (w : World) :
    Calls Try.prog 20 #[.int .u64 p, .int .i64 g, .int .i64 x] w fun e w' => e = .returned (.tuple #[.int .i64 (indexOf p g x), .int .i64 (errOf g x)]) ∧ Below w.heap.size w w' := by
  by_cases hv : validB g = true
  · by_cases hx : 0 ≤ x ∧ x < g
    · exact Index_hit p g x p0 p1 hv hx.1 hx.2 w
    · have he : (errOf g 0 != 0) = false := by rw [errOf_0 hv]; rfl
      have hg := valid_bounds hv
      have HE := Lib.hid (show errOf g x = 3 from by unfold errOf; rw [if_pos hv, if_pos (by omega)])
      have hex : (errOf g x != 0) = true := by rw [HE.out]; rfl
      have HI := Lib.hid (show indexOf p g x = 0 from by unfold indexOf; rw [if_neg (by rw [HE.out]; omega)])
      clear hv hx
      go_enter Try.func20, Try.ntmps20
      go_wp2_with fail
      go_step3
      go_wp2_with (first
        | (go_at_call 17; refine (All_any p g b0 b1 _).mono ?_; rintro e w1 ⟨rfl, hbel, hsz, hm, hp, hgr⟩; simp only [World.size_alloc] at hbel hsz hm hp hgr; have hcx : w1.cell? ⟨w.heap.size, 0, none⟩ = some (.int .i64 x) := (hbel.cell (p := ⟨w.heap.size, 0, none⟩) (by show w.heap.size < _; omega)).trans (by simp [go_sem]))
        | (go_at_call 21; refine (check_any g x b0 b1 _).mono ?_; rintro e w' ⟨rfl, rfl⟩))
      (try rw [Exit.noGoto_ret])
      go_ret2
      exact ⟨ret_two HI.out.symm rfl, ((Below.refl _ w).alloc (Nat.le_refl _) _).trans (hbel.mono (by omega))⟩
  · have HE := Lib.hid (errOf_bad (n := x) hv)
    have he : (errOf g 0 != 0) = true := by rw [errOf_bad hv]; rfl
    have he' : errOf g 0 = 2 := errOf_bad hv
    have HI := Lib.hid (show indexOf p g x = 0 from by unfold indexOf; rw [if_neg (by rw [HE.out]; omega)])
    have HE' := Lib.hid he'
    clear hv he'
    go_enter Try.func20, Try.ntmps20
    go_wp2_with fail
    go_step3
    go_wp2_with (first
      | (go_at_call 17; refine (All_any p g b0 b1 _).mono ?_; rintro e w1 ⟨rfl, hbel, hsz, hm, hp, hgr⟩; simp only [World.size_alloc] at hbel hsz hm hp hgr))
    (try rw [Exit.noGoto_ret])
    go_ret2
    exact ⟨ret_two HI.out.symm (by rw [HE'.out, HE.out]), ((Below.refl _ w).alloc (Nat.le_refl _) _).trans (hbel.mono (by omega))⟩

theorem lawIndex_any (p g i x no : Int) (p0 : 0 ≤ p) (p1 : p < 18446744073709551616) (b0 : -9223372036854775808 ≤ g) (b1 : g ≤ 9223372036854775807) (w : World) :
    Calls Try.prog 16 #[.int .u64 p, .int .i64 g, .int .i64 i, .int .i64 x, .int .i64 no] w fun e w' => e = .returned (.bool (decide (indexOf p g i = x ∧ errOf g i = no))) ∧ Below w.heap.size w w' := by
  by_cases h1 : indexOf p g i = x
  · have e1 : (indexOf p g i == x) = true := by rw [beq_iff_eq]; exact h1
    have HF := Lib.hid (show (errOf g i == no) = decide (indexOf p g i = x ∧ errOf g i = no) from by
      rw [Bool.eq_iff_iff]; simp [h1])
    clear h1
    go_enter Try.func16, Try.ntmps16
    go_wp2_with (first | (go_at_call 20; refine (Index_any p g i p0 p1 b0 b1 _).mono ?_; rintro e w' ⟨rfl, hb⟩))
    go_ret
    exact ⟨ret_bool HF.out, hb⟩
  · have e1 : (indexOf p g i == x) = false := by rw [beq_eq_false_iff_ne]; exact h1
    have HF := Lib.hid (show false = decide (indexOf p g i = x ∧ errOf g i = no) from by simp [h1])
    clear h1
    go_enter Try.func16, Try.ntmps16
    go_wp2_with (first | (go_at_call 20; refine (Index_any p g i p0 p1 b0 b1 _).mono ?_; rintro e w' ⟨rfl, hb⟩))
    go_ret
    exact ⟨ret_bool HF.out, hb⟩
end Go.Proofs.Ytkigfmfofnhknaa
