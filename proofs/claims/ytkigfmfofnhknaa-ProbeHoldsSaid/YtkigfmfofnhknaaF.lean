/-
  Contract of the law's own function 'all': whether probe.All goes over some groups, with some error.
-/
import Derived.Test.YtkigfmfofnhknaaE
namespace Go.Proofs.Ytkigfmfofnhknaa
open Go.ChangeShapes Go.WideShapes Go.ChangeAt Go.RowKit Go.Shelf
set_option linter.unusedVariables false
attribute [local go_sem] Oper.semAt_some

theorem own_shape {w : World} {base : Nat} {e : TypeId} {size : Nat} {v : Value} {n : Nat} {xs : List Value} (h : w.ownsRow base e size v n xs) : ∃ A c, v = .slice A n c := by
  rcases h.2 with ⟨rfl, h0⟩ | ⟨g, cap, cur, rfl, _⟩
  · have : n = 0 := by omega
    subst this
    exact ⟨none, 0, rfl⟩
  · exact ⟨_, cap, rfl⟩

theorem upto_many_length (p g : Int) : (upto p g (manyOf g)).length ≤ 1048576 := by
  rw [upto_length]
  rcases manyOf_ok g with h | ⟨hv, h⟩
  · omega
  · have := valid_bounds hv; omega

/-- A function value that was made is not nil. -/
theorem eql_func (f : Fn) (a b : Array Value) (w : World) : (binOp .eql 35 (.func f a b) .nilFunc).run Try.prog w = .ok (.bool false) w := by kernel_rfl

set_option maxRecDepth 100000 in
set_option maxHeartbeats 2000000 in
theorem all_go (p g : Int) (p0 : 0 ≤ p) (p1 : p < 18446744073709551616) (b0 : -9223372036854775808 ≤ g) (b1 : g ≤ 9223372036854775807) (vw : Value) (ws : List Int) (no : Int) (hno : errOf g 0 = no) (hws : ws.length ≤ 9223372036854775807) (w : World) (hw : Ints w.heap.size w vw ws) :
    Calls Try.prog 13 #[.int .u64 p, .int .i64 g, vw, .int .i64 no] w fun e w' => e = .returned (.bool (decide (seqOf p g = ws))) ∧ Below w.heap.size w w' := by
  have hW := Lib.hid hw
  have hneq : (errOf g 0 != no) = false := by rw [hno]; simp
  obtain ⟨i0, hi, hz0, hz1, hz2⟩ := info_parts info3
  obtain ⟨A, c, rfl, hAc⟩ := hw
  clear hAc hno
  have hef := eql_func
  refine (callsIn_wide (n := 4)).1 ?_
  refine callsIn_of_wp_marks Try.func13 rfl trivial ?_ rfl
  simp only [Try.ntmps13, List.size_toArray, List.length_cons, List.length_nil, Nat.reduceAdd, Nat.reduceSub, Array.replicate_succ, Array.replicate_zero, List.push_toArray, List.append_toArray, List.nil_append, List.cons_append]
  refine wpIn_wide.2 ?_
  go_wp2_with (go_at_call 17; refine (All_any p g b0 b1 _).mono ?_; rintro e w1 ⟨rfl, hbel, hsz, hm, hp, hgr⟩; simp only [World.size_alloc] at hbel hsz hm hp hgr)
  generalize hA : Act.mk _ _ = A0
  have hcw : w1.cell? ⟨w.heap.size, 0, none⟩ = some (.slice A ws.length c) := (hbel.cell (p := ⟨w.heap.size, 0, none⟩) (by show w.heap.size < _; omega)).trans (by simp [go_sem, World.cell?_alloc_past])
  have hcr : w1.cell? ⟨w.heap.size + 1, 0, none⟩ = some (.bool false) := (hbel.cell (p := ⟨w.heap.size + 1, 0, none⟩) (by show w.heap.size + 1 < _; omega)).trans (by simp [go_sem])
  have hfr : w1.frozen? ⟨w.heap.size + 1, 0, none⟩ = false := (hbel.frozen (p := ⟨w.heap.size + 1, 0, none⟩) (by show w.heap.size + 1 < _; omega)).trans (by simp [go_sem])
  have bO := Boxed.new w1 31 (.slice none 0 0)
  rw [hsz] at bO
  have hul := upto_many_length p g
  have hb0 : Below w.heap.size w w1 := (((Below.refl _ w).alloc (Nat.le_refl _) _).alloc (by simp) _).trans (hbel.mono (by omega))
  refine (wpIn_wide (n := 4)).1 ?_
  refine wpIn_rangeFunc_ownG rfl (by omega) (gf := 22) (lb := #[.pointer (some ⟨w.heap.size + 1 + 1 + 1 + 1, 0, none⟩), .pointer (some ⟨w.heap.size + 1 + 1, 0, none⟩), .pointer (some ⟨w.heap.size + 1 + 1 + 1, 0, none⟩)]) (by rw [← hA]; rfl) trivial (enters_of Try.func22 (by kernel_rfl) rfl)
    (iter_stops (4 - 1) (by omega) (w.heap.size + 1 + 1 + 1 + 1) (w.heap.size + 1 + 1) (w.heap.size + 1 + 1 + 1) (w.heap.size + 1 + 1 + 3) p g p0 p1 w1 (by omega) (by omega) (by omega) (by omega) hm hp hgr)
    belowK_t (belowK_b (by simp; omega)) ((Below.refl _ _).alloc (by simp) _) (fun _ => rfl)
    (fun pre W => (∃ v, Boxed W (w.heap.size + 1 + 1 + 3) 31 v ∧ W.ownsRow (w.heap.size + 1 + 1 + 3) 3 1 v pre.length (pre.map (Value.int .i64)) ∧ True) ∧ Below (w.heap.size + 1 + 1 + 3) w1 W)
    (fun c pre W => ((c = .ret ∧ W.cell? ⟨w.heap.size + 1, 0, none⟩ = some (.bool false)) ∧ ws.length < pre.length) ∧ Below w.heap.size w W)
    (OwnFrom.and (Own.from (holdsRow_own (w.heap.size + 1 + 1 + 3) (w.heap.size + 1 + 1 + 3) 31 3 1 (fun pre : List Int => pre.length) (fun pre : List Int => pre.map (Value.int .i64)) (fun _ _ => True)) _) (ownFrom_below (by omega) (by simp; omega)))
    (fun c => OwnFrom.and (OwnFrom.and (Own.from (I := fun (_ : List Int) W => c = .ret ∧ W.cell? ⟨w.heap.size + 1, 0, none⟩ = some (.bool false)) (fun s A B row hs hg hr => ⟨hs.1, cell_kept hs.2 hg hr⟩) _) (ownFrom_pure _ _)) (ownFrom_below (Nat.le_refl _) (by simp; omega)))
    ⟨⟨_, bO, World.ownsRow_nil _ _ _ _, trivial⟩, (Below.refl _ _).alloc (by omega) _⟩
    (fun y => { tmps := (A0.tmps.setIfInBounds 27 (.int .i64 y)).setIfInBounds 12 (.int .i64 y), defers := [] }) ?assign ?body ?done ?stop
  case assign =>
    intro l y W K hK
    subst hA
    simp only [List.setIfInBounds_toArray, List.set_cons_zero, List.set_cons_succ] at hK
    gi_wp2
    exact hK
  case body =>
    rintro l pre y W ⟨⟨v, hv, hrow, _⟩, hB⟩ hlt
    have hcw' : W.cell? ⟨w.heap.size, 0, none⟩ = some (.slice A ws.length c) := (hB.cell (p := ⟨w.heap.size, 0, none⟩) (by show w.heap.size < _; omega)).trans hcw
    have hcr' : W.cell? ⟨w.heap.size + 1, 0, none⟩ = some (.bool false) := (hB.cell (p := ⟨w.heap.size + 1, 0, none⟩) (by show w.heap.size + 1 < _; omega)).trans hcr
    have hfr' : W.frozen? ⟨w.heap.size + 1, 0, none⟩ = false := (hB.frozen (p := ⟨w.heap.size + 1, 0, none⟩) (by show w.heap.size + 1 < _; omega)).trans hfr
    have hBs := hB.size
    have HS := Lib.hid hsz
    have hlt' : pre.length < 1048576 := by omega
    clear hsz hcw hcr hfr hm hp hgr hlt hul
    obtain ⟨A', c', rfl⟩ := own_shape hrow
    have hc := hv.cell
    subst hA
    simp only [List.setIfInBounds_toArray, List.set_cons_zero, List.set_cons_succ]
    by_cases hq : ws.length < pre.length
    · gi_wp2
      exact ⟨(KeepsOthers.setCell _ _ _).from _, ⟨⟨rfl, World.cell?_setCell_same' _ _ _ (by rw [hcr']; rfl)⟩, by simp; omega⟩, (hb0.trans (hB.mono (by omega))).setCell (by show _ ≤ w.heap.size + 1; omega) _⟩
    · gi_wp2_with (gi_at_builtin; refine wpListIn_append_own _ rfl _ _ 31 rfl (w.heap.size + 1 + 1 + 3) 3 i0 (.int .i64 0) 1 8 Try.underlying31 hi hz0 hz1 hz2 rfl (by decide) _ _ _ rfl (hrow.alloc _) ⟨W.heap.size, 0, none⟩ 1 1 [.int .i64 y] rfl rfl (cell_one_new _ _ _) (by simp [Value.oneCell']) (by unfold maxLen; omega) (by omega) (by simp; rw [HS.out] at hBs; omega) ?_; intro v' w2 hown' hgrow _; obtain ⟨g', cap', rfl⟩ := ownsRow_succ hown'; obtain ⟨hv1, hv2, hr2, hk2, hb2⟩ := hv.appended (by decide) hrow (by rw [HS.out] at hBs; omega) (Nat.le_refl _) hown' hgrow; have hc1 := hv1.cell; have hf1 := hv1.frozen)
      exact ⟨hk2.from _, hb2, ⟨_, hv2, by simpa using hr2, trivial⟩, hB.trans hb2⟩
  case done =>
    rintro D ys W hD rfl ⟨⟨v, hv, hrow, _⟩, hB⟩ hK
    have hcw' : W.cell? ⟨w.heap.size, 0, none⟩ = some (.slice A ws.length c) := (hB.cell (p := ⟨w.heap.size, 0, none⟩) (by show w.heap.size < _; omega)).trans hcw
    have hcr' : W.cell? ⟨w.heap.size + 1, 0, none⟩ = some (.bool false) := (hB.cell (p := ⟨w.heap.size + 1, 0, none⟩) (by show w.heap.size + 1 < _; omega)).trans hcr
    have hfr' : W.frozen? ⟨w.heap.size + 1, 0, none⟩ = false := (hB.frozen (p := ⟨w.heap.size + 1, 0, none⟩) (by show w.heap.size + 1 < _; omega)).trans hfr
    have hbw : Below w.heap.size w W := hb0.trans (hB.mono (by omega))
    have hlt1 : w.heap.size + 1 < W.heap.size := by have := hB.size; omega
    have hDlt : D < W.heap.size := (Array.getElem?_eq_some_iff.1 hK).1
    have hDs : w.heap.size ≤ D := by have := hD; simp at this; omega
    have hDne : w.heap.size + 1 ≠ D := by have := hD; simp at this; omega
    have hI1 : Ints W.heap.size W v (seqOf p g) := by rw [← seqOf_many]; exact Ints.of_own hrow
    have hI2 : Ints W.heap.size W (.slice A ws.length c) ws := hW.out.below hbw hbw.size
    have hc := hv.cell
    have hsl : (seqOf p g).length ≤ 9223372036854775807 := by rw [← seqOf_many]; omega
    obtain ⟨A', c', rfl⟩ := own_shape hrow
    have HI1 := Lib.hid hI1
    have HI2 := Lib.hid hI2
    clear hcw hcr hfr hm hp hgr hul hsz bO hI1 hI2 hrow hD
    subst hA
    go_wp2_with (go_at_call 19; refine (same_any _ _ _ _ _ HI1.out HI2.out hsl).mono ?_; rintro e W2 ⟨rfl, hb2⟩; have hcr2 : W2.cell? ⟨w.heap.size + 1, 0, none⟩ = some (.bool false) := (hb2.cell (p := ⟨w.heap.size + 1, 0, none⟩) hlt1).trans hcr'; have hfr2 : W2.frozen? ⟨w.heap.size + 1, 0, none⟩ = false := (hb2.frozen (p := ⟨w.heap.size + 1, 0, none⟩) hlt1).trans hfr')
    have hKD : W2.heap[D]? = some (.deferred (some [])) := (hb2.block D hDlt).trans hK
    have hKD2 : (W2.setCell ⟨w.heap.size + 1, 0, none⟩ (.bool (decide (seqOf p g = ws)))).heap[D]? = some (.deferred (some [])) := (Below.heap_setCell _ _ _ _ hDne.symm).trans hKD
    refine ⟨by simp, .inl ⟨_, _, rfl, run_takeDeferred hKD2, ?_⟩⟩
    have hres : ((W2.setCell ⟨w.heap.size + 1, 0, none⟩ (.bool (decide (seqOf p g = ws)))).putObj D (.deferred none)).cell? ⟨w.heap.size + 1, 0, none⟩ = some (.bool (decide (seqOf p g = ws))) :=
      cell_kept (World.cell?_setCell_same' _ _ _ (by rw [hcr2]; rfl)) (grownBy_putObj' _ D _) (fun r e => by cases e; exact ⟨_, hKD2, rfl⟩)
    refine ⟨.bool (decide (seqOf p g = ws)), by simp [results, Try.results13, go_sem, hres], rfl, ?_⟩
    exact ((hbw.trans (hb2.mono hbw.size)).setCell (by show _ ≤ w.heap.size + 1; omega) _).trans (belowK_b (w := w) (Nat.le_refl _) _ D _ _ hDs hKD2 rfl rfl)
  case stop =>
    rintro D c pre W hD hpre ⟨⟨⟨rfl, hc⟩, hlen⟩, hB⟩ hK
    subst hA
    have HF := Lib.hid (show false = decide (seqOf p g = ws) from by
      symm; rw [decide_eq_false_iff_not]; rintro rfl
      have := hpre.length_le
      rw [seqOf_many] at this
      omega)
    have hDs : w.heap.size ≤ D := by have := hD; simp at this; omega
    gi_wp2
    refine ⟨by simp, .inl ⟨_, _, rfl, run_takeDeferred hK, ?_⟩⟩
    have hres : (W.putObj D (.deferred none)).cell? ⟨w.heap.size + 1, 0, none⟩ = some (.bool false) :=
      cell_kept hc (grownBy_putObj' _ D _) (fun r e => by cases e; exact ⟨_, hK, rfl⟩)
    refine ⟨.bool false, by simp [results, Try.results13, go_sem, hres], ret_bool HF.out, ?_⟩
    exact hB.trans (belowK_b (w := w) (Nat.le_refl _) _ D _ _ hDs hK rfl rfl)

theorem all_any (p g : Int) (p0 : 0 ≤ p) (p1 : p < 18446744073709551616) (b0 : -9223372036854775808 ≤ g) (b1 : g ≤ 9223372036854775807) (vw : Value) (ws : List Int) (no : Int) (hws : ws.length ≤ 9223372036854775807) (w : World) (hw : Ints w.heap.size w vw ws) :
    Calls Try.prog 13 #[.int .u64 p, .int .i64 g, vw, .int .i64 no] w fun e w' => e = .returned (.bool (decide (errOf g 0 = no ∧ seqOf p g = ws))) ∧ Below w.heap.size w w' := by
  by_cases hno : errOf g 0 = no
  · refine (all_go p g p0 p1 b0 b1 vw ws no hno hws w hw).mono ?_
    rintro e w' ⟨rfl, hb⟩
    refine ⟨ret_bool ?_, hb⟩
    rw [Bool.eq_iff_iff]; simp [hno]
  · have hneq : (errOf g 0 != no) = true := by rw [bne_iff_ne]; exact hno
    have HF := Lib.hid (show false = decide (errOf g 0 = no ∧ seqOf p g = ws) from by simp [hno])
    have hef := eql_func
    obtain ⟨A, c, rfl, _⟩ := hw
    clear hno
    go_enter Try.func13, Try.ntmps13
    go_wp2_with (go_at_call 17; refine (All_any p g b0 b1 _).mono ?_; rintro e w1 ⟨rfl, hbel, hsz, hm, hp, hgr⟩; simp only [World.size_alloc] at hbel hsz hm hp hgr; have hcr : w1.cell? ⟨w.heap.size + 1, 0, none⟩ = some (.bool false) := (hbel.cell (p := ⟨w.heap.size + 1, 0, none⟩) (by show w.heap.size + 1 < _; omega)).trans (by simp [go_sem]); have hfr : w1.frozen? ⟨w.heap.size + 1, 0, none⟩ = false := (hbel.frozen (p := ⟨w.heap.size + 1, 0, none⟩) (by show w.heap.size + 1 < _; omega)).trans (by simp [go_sem]))
    have hres : (w1.setCell ⟨w.heap.size + 1, 0, none⟩ (.bool false)).cell? ⟨w.heap.size + 1, 0, none⟩ = some (.bool false) := World.cell?_setCell_same' _ _ _ (by rw [hcr]; rfl)
    refine bodyPost_ret (v := .bool false) (by simp [results, Try.results13, go_sem, hres]) rfl ⟨ret_bool HF.out, ?_⟩
    exact ((((Below.refl _ w).alloc (Nat.le_refl _) _).alloc (by simp) _).trans (hbel.mono (by omega))).setCell (by show _ ≤ w.heap.size + 1; omega) _
end Go.Proofs.Ytkigfmfofnhknaa
