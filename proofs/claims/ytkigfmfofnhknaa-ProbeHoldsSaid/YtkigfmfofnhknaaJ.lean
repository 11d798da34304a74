/-
  The walk of the law ProbeHolds (the theorem of stage 6): it returns true, and writes nothing that was there.
-/
import Derived.Test.YtkigfmfofnhknaaH
namespace Go.Proofs.Ytkigfmfofnhknaa
open Go.ChangeShapes Go.WideShapes Go.ChangeAt Go.RowKit Go.Shelf
set_option linter.unusedVariables false
attribute [local go_sem] Oper.semAt_some

theorem info4 : (Try.prog.info? 4).map (fun i => (i.zero, i.size, i.bytes)) = some (some (.bool false), 1, 1) := by kernel_rfl

theorem prefix_next (p g : Int) {n : Nat} {pre : List Int} {y : Int} (hp : pre <+: upto p g n) (hl : pre.length < n) : (pre ++ [y]) <+: upto p g n ↔ y = pat p g pre.length := by
  obtain ⟨r, hr⟩ := hp
  have h1 := upto_getElem p g n pre.length hl
  rw [← hr, List.getElem?_append_right (Nat.le_refl _)] at h1
  rw [← hr]
  cases r with
  | nil => simp at h1
  | cons z r =>
    simp at h1
    simp [h1]
theorem prefix_mem (p : Int) {g : Int} {n : Nat} {pre : List Int} (hp : pre <+: upto p g n) {y : Int} (hy : y ∈ pre) : ∃ j : Nat, j < pre.length ∧ y = pat p g j := by
  obtain ⟨r, hr⟩ := hp
  obtain ⟨j, hj, he⟩ := List.mem_iff_getElem.1 hy
  refine ⟨j, hj, ?_⟩
  have hn : j < n := by
    have := congrArg List.length hr
    rw [upto_length, List.length_append] at this; omega
  have h1 := upto_getElem p g n j hn
  rw [← hr, List.getElem?_append_left hj, List.getElem?_eq_getElem hj, he] at h1
  injection h1

/-- What the loop of ProbeHolds keeps: the number of groups so far, which ones were seen, and that they are the first ones of the sequence. -/
structure Seen (p : Int) (m S T : Nat) (W0 : World) (pre : List Int) (W : World) : Prop where
  slice : W.cell? ⟨T, 0, none⟩ = some (.slice (some ⟨S, 0, none⟩) m m)
  count : W.cell? ⟨T + 1, 0, none⟩ = some (.int .i64 (pre.length : Nat))
  free : W.frozen? ⟨T + 1, 0, none⟩ = false
  seen : ∀ j : Nat, j < m → W.cell? ⟨S, j, none⟩ = some (.bool (decide ((j : Int) ∈ pre)))
  free' : ∀ j : Nat, j < m → W.frozen? ⟨S, j, none⟩ = false
  pfx : pre <+: upto p m m
  bel : Below S W0 W
theorem seen_own (p : Int) (m S T : Nat) (W0 : World) (D : Nat) (h1 : S ≤ W0.heap.size) (h2 : S ≤ D) : OwnFrom D (Seen p m S T W0) := fun s A B row hs hg hr =>
  have hr' : ∀ r, row = some r → ∃ o : Obj, A.heap[r]? = some o ∧ o.isCells = false := fun r e => (hr r e).2
  ⟨cell_kept hs.slice hg hr', cell_kept hs.count hg hr', (frozen_kept hs.count hg hr').trans hs.free, fun j hj => cell_kept (hs.seen j hj) hg hr', fun j hj => (frozen_kept (hs.seen j hj) hg hr').trans (hs.free' j hj), hs.pfx,
   ownFrom_below (β := Unit) h1 h2 () A B row hs.bel hg hr⟩
/-- What lies behind the loop. -/
def Post (A0 : Act) (S T m : Nat) (W0 : World) (e : Exit) (a : Act) (W : World) : Prop :=
  e = .normal ∧ ∃ D : Nat, a = { A0 with defers := { target := .collected D, args := #[] } :: A0.defers } ∧ W0.heap.size ≤ D ∧
    W.cell? ⟨T + 1, 0, none⟩ = some (.int .i64 m) ∧ Below S W0 W ∧ W.heap[D]? = some (.deferred (some []))
/-- How the loop may be left from within: by the return of false. -/
def Left (p : Int) (m : Nat) (w : World) (c : Code) (pre : List Int) (W : World) : Prop := (c = .ret ∧ ¬ pre <+: upto p m m) ∧ Below w.heap.size w W
theorem left_own {p : Int} {m : Nat} {w : World} (c : Code) (D : Nat) (h1 : w.heap.size ≤ D) : OwnFrom D (Left p m w c) :=
  OwnFrom.and (ownFrom_pure _ (fun pre : List Int => c = .ret ∧ ¬ pre <+: upto p m m)) (ownFrom_below (Nat.le_refl _) h1)

set_option maxRecDepth 100000 in
set_option maxHeartbeats 4000000 in
theorem holds_go (p : Int) (k : Nat) (more : Int) (i : Int) (p0 : 0 ≤ p) (p1 : p < 18446744073709551616) (hk : k ≤ 12) (q0 : 0 ≤ more) (q1 : more < 18446744073709551616) (w : World) :
    Calls Try.prog 7 #[.int .u64 p, .int .i64 k, .int .u64 more, .int .i64 i] w fun e w' => e = .returned (.bool true) ∧ Below w.heap.size w w' := by
  have hef := eql_func
  obtain ⟨m, hm⟩ : ∃ m : Nat, m = 2 ^ k := ⟨_, rfl⟩
  have hm4 : m ≤ 4096 := by rw [hm]; exact Nat.pow_le_pow_right (n := 2) (by omega) hk
  have hm1 : 1 ≤ m := by rw [hm]; exact Nat.two_pow_pos k
  have hv : validB (m : Int) = true := (validB_iff _).2 ⟨k, by omega, by rw [hm]⟩
  have hsh : wrap64 ((2 : Int) ^ k) = (m : Int) := by
    have : ((2 : Int) ^ k) = (m : Int) := by rw [hm]; simp
    rw [this]; exact IntWalk.wrap64_in _ (by omega)
  have hmany : manyOf (m : Int) = m := by unfold manyOf; rw [if_pos hv]; simp
  have he : (errOf (m : Int) 0 != 0) = false := by rw [errOf_0 hv]; rfl
  have HV := Lib.hid hv
  have HM := Lib.hid hmany
  clear hm hv hmany
  obtain ⟨i4, hi4, hz0, hz1, hz2⟩ := info_parts info4
  refine (callsIn_wide (n := 4)).1 ?_
  refine callsIn_of_wp_marks Try.func7 rfl trivial ?_ rfl
  simp only [Try.ntmps7, List.size_toArray, List.length_cons, List.length_nil, Nat.reduceAdd, Nat.reduceSub, Array.replicate_succ, Array.replicate_zero, List.push_toArray, List.append_toArray, List.nil_append, List.cons_append]
  refine wpIn_wide.2 ?_
  go_wp2_with fail
  refine (All_any p m (by omega) (by omega) _).mono ?_
  rintro e w1 ⟨rfl, hbel, hsz, hmc, hpc, hgc⟩
  simp only [World.size_alloc] at hbel hsz hmc hpc hgc
  rw [HM.out] at hmc
  have c1 : w1.cell? ⟨w.heap.size, 0, none⟩ = some (.int .u64 p) := (hbel.cell (p := ⟨w.heap.size, 0, none⟩) (by show w.heap.size < _; omega)).trans (by simp [go_sem, World.cell?_alloc_past])
  have c2 : w1.cell? ⟨w.heap.size + 1, 0, none⟩ = some (.bool false) := (hbel.cell (p := ⟨w.heap.size + 1, 0, none⟩) (by show w.heap.size + 1 < _; omega)).trans (by simp [go_sem, World.cell?_alloc_past])
  have c3 : w1.frozen? ⟨w.heap.size + 1, 0, none⟩ = false := (hbel.frozen (p := ⟨w.heap.size + 1, 0, none⟩) (by show w.heap.size + 1 < _; omega)).trans (by simp [go_sem])
  have c4 : w1.cell? ⟨w.heap.size + 1 + 1, 0, none⟩ = some (.int .i64 m) := (hbel.cell (p := ⟨w.heap.size + 1 + 1, 0, none⟩) (by show w.heap.size + 1 + 1 < _; omega)).trans (by simp [go_sem])
  have hbw1 : Below w.heap.size w w1 := ((((Below.refl _ w).alloc (Nat.le_refl _) _).alloc (by simp) _).alloc (by simp; omega) _).trans (hbel.mono (by omega))
  clear hbel
  go_wp2_with (at_make; refine wpList_make_full _ rfl _ _ 39 rfl (w.heap.size + 6) 4 i4 (.bool false) 1 Try.underlying39 hi4 hz0 hz1 _ _ _ _ m rfl rfl rfl rfl (by rw [hz2]; omega) (by unfold maxLen; omega) (by omega) ?_; intro w3 hown3 hgrow3)
  obtain ⟨S, hS⟩ : ∃ S, S = w.heap.size + 1 + 1 + 1 + 3 := ⟨_, rfl⟩
  rw [← hS] at hsz hown3
  rw [hsz] at hown3
  rw [← hS]
  obtain ⟨T, hT⟩ : ∃ T, w3.heap.size = T := ⟨_, rfl⟩
  rw [hT]
  have hST : S < T := by rw [← hT]; exact (hown3.lt S rfl).2
  have hb13 : Below S w1 w3 := (Below.refl _ _).grown hgrow3 (by omega) (fun k e => by cases e)
  obtain ⟨W0, hW0⟩ : ∃ W0, (w3.alloc (.cells #[.slice (some ⟨S, 0, none⟩) m m] 39)).alloc (.cells #[.int .i64 0] 3) = W0 := ⟨_, rfl⟩
  rw [hW0]
  have hzW : W0.heap.size = T + 1 + 1 := by rw [← hW0]; simp [hT]
  have hb30 : Below T w3 W0 := by rw [← hW0]; exact ((Below.refl _ _).alloc (by omega) _).alloc (by simp; omega) _
  have hb10 : Below S w1 W0 := hb13.trans (hb30.mono (by omega))
  have hseen0 : Seen p m S T W0 [] W0 := by
    refine ⟨?_, ?_, ?_, ?_, ?_, List.nil_prefix, Below.refl _ _⟩
    · rw [← hW0, ← hT]; simp [go_sem, World.cell?_alloc_past]
    · rw [← hW0, ← hT]; simp [go_sem]
    · rw [← hW0, ← hT]; simp [go_sem]
    · intro j hj
      have h1 := hown3.cellAt j (by omega)
      rw [Nat.mul_one, show (Value.bool false).cells = #[Value.bool false] from rfl, toList_madeCells_one, List.getElem?_replicate, if_pos hj] at h1
      exact ((hb30.cell (p := ⟨S, j, none⟩) hST).trans h1)
    · intro j hj
      exact (hb30.frozen (p := ⟨S, j, none⟩) hST).trans (hown3.frozenAt j)
  have hSN : S = w.heap.size + 6 := by omega
  have d1 : W0.cell? ⟨w.heap.size, 0, none⟩ = some (.int .u64 p) := (hb10.cell (p := ⟨w.heap.size, 0, none⟩) (by show w.heap.size < _; omega)).trans c1
  have d2 : W0.cell? ⟨w.heap.size + 1, 0, none⟩ = some (.bool false) := (hb10.cell (p := ⟨w.heap.size + 1, 0, none⟩) (by show w.heap.size + 1 < _; omega)).trans c2
  have d3 : W0.frozen? ⟨w.heap.size + 1, 0, none⟩ = false := (hb10.frozen (p := ⟨w.heap.size + 1, 0, none⟩) (by show w.heap.size + 1 < _; omega)).trans c3
  have d4 : W0.cell? ⟨w.heap.size + 1 + 1, 0, none⟩ = some (.int .i64 m) := (hb10.cell (p := ⟨w.heap.size + 1 + 1, 0, none⟩) (by show w.heap.size + 1 + 1 < _; omega)).trans c4
  have dm : W0.cell? ⟨w.heap.size + 1 + 1 + 1 + 1 + 1, 0, none⟩ = some (.int .i64 (manyOf m)) := (hb10.cell (p := ⟨w.heap.size + 1 + 1 + 1 + 1 + 1, 0, none⟩) (by show w.heap.size + 1 + 1 + 1 + 1 + 1 < _; omega)).trans (by rw [HM.out]; exact hmc)
  have dp : W0.cell? ⟨w.heap.size + 1 + 1 + 1, 0, none⟩ = some (.int .u64 p) := (hb10.cell (p := ⟨w.heap.size + 1 + 1 + 1, 0, none⟩) (by show w.heap.size + 1 + 1 + 1 < _; omega)).trans hpc
  have dg : W0.cell? ⟨w.heap.size + 1 + 1 + 1 + 1, 0, none⟩ = some (.int .i64 m) := (hb10.cell (p := ⟨w.heap.size + 1 + 1 + 1 + 1, 0, none⟩) (by show w.heap.size + 1 + 1 + 1 + 1 < _; omega)).trans hgc
  have hbW0 : Below w.heap.size w W0 := hbw1.trans (hb10.mono (by omega))
  have HS := Lib.hid hS
  have HSN := Lib.hid hSN
  clear hW0 hS hown3 hgrow3 hT hb13 hb30 hb10 c1 c2 c3 c4 hmc hpc hgc hsz hbw1 hi4 hz0 hz1 hz2
  have hSN1 : w.heap.size + 6 ≤ S := by have := HSN.out; omega
  clear hSN
  generalize hA : Act.mk _ _ = A0
  refine Code.wp_mono (Q := Post A0 S T m W0) (fun e a W hP1 => ?rest) ?main
  case main =>
    refine (wpIn_wide (n := 4)).1 ?_
    refine wpIn_rangeFunc_ownG rfl (by omega) (gf := 22) (lb := #[.pointer (some ⟨w.heap.size + 1 + 1 + 1 + 1 + 1, 0, none⟩), .pointer (some ⟨w.heap.size + 1 + 1 + 1, 0, none⟩), .pointer (some ⟨w.heap.size + 1 + 1 + 1 + 1, 0, none⟩)]) (by rw [← hA]; rfl) trivial (enters_of Try.func22 (by kernel_rfl) rfl)
      (iter_stops (4 - 1) (by omega) (w.heap.size + 1 + 1 + 1 + 1 + 1) (w.heap.size + 1 + 1 + 1) (w.heap.size + 1 + 1 + 1 + 1) S p m p0 p1 W0 (by omega) (by omega) (by omega) (by omega) dm dp dg)
      belowK_t (belowK_b (by omega)) (Below.refl _ _) (fun _ => rfl)
      (Seen p m S T W0) (Left p m w) (seen_own p m S T W0 _ (by omega) (by omega)) (fun c => left_own c _ (by omega)) hseen0
      (fun y => { tmps := (A0.tmps.setIfInBounds 43 (.int .i64 y)).setIfInBounds 14 (.int .i64 y), defers := [] }) ?assign ?body ?done ?stop
    case assign =>
      intro l y W K hK
      subst hA
      simp only [List.setIfInBounds_toArray, List.set_cons_zero, List.set_cons_succ] at hK
      gi_wp2
      exact hK
    case body =>
      rintro l pre y W ⟨h1, h2, h3, h4, h5, h6, h7⟩ hlt
      rw [upto_length, HM.out] at hlt
      have e1 : W.cell? ⟨w.heap.size, 0, none⟩ = some (.int .u64 p) := (h7.cell (p := ⟨w.heap.size, 0, none⟩) (by show w.heap.size < _; omega)).trans d1
      have e2 : W.cell? ⟨w.heap.size + 1, 0, none⟩ = some (.bool false) := (h7.cell (p := ⟨w.heap.size + 1, 0, none⟩) (by show w.heap.size + 1 < _; omega)).trans d2
      have e3 : W.frozen? ⟨w.heap.size + 1, 0, none⟩ = false := (h7.frozen (p := ⟨w.heap.size + 1, 0, none⟩) (by show w.heap.size + 1 < _; omega)).trans d3
      have e4 : W.cell? ⟨w.heap.size + 1 + 1, 0, none⟩ = some (.int .i64 m) := (h7.cell (p := ⟨w.heap.size + 1 + 1, 0, none⟩) (by show w.heap.size + 1 + 1 < _; omega)).trans d4
      have hbw : Below w.heap.size w W := hbW0.trans (h7.mono (by omega))
      have HP := Lib.hid h6
      have H4 := Lib.hid h4
      have H5 := Lib.hid h5
      have HB7 := Lib.hid h7
      clear h4 h5 h6 h7 hseen0 d1 d2 d3 d4 dm dp dg hzW hsh
      subst hA
      simp only [List.setIfInBounds_toArray, List.set_cons_zero, List.set_cons_succ]
      by_cases hy0 : y < 0
      · have hno : ¬ (pre ++ [y]) <+: upto p m m := fun h => by
          have h1 := (prefix_next p m HP.out hlt).1 h
          have h2 := pat_range p (show (0 : Int) < m by omega) pre.length
          omega
        have HN := Lib.hid hno
        clear hno
        gi_wp2
        refine ⟨trivial, ?_⟩
        gi_wp2
        exact ⟨(KeepsOthers.setCell _ _ _).from _, ⟨rfl, HN.out⟩, hbw.setCell (by show _ ≤ w.heap.size + 1; omega) _⟩
      · by_cases hy1 : (m : Int) ≤ y
        · have hno : ¬ (pre ++ [y]) <+: upto p m m := fun h => by
            have h1 := (prefix_next p m HP.out hlt).1 h
            have h2 := pat_range p (show (0 : Int) < m by omega) pre.length
            omega
          have HN := Lib.hid hno
          clear hno
          gi_wp2
          refine ⟨trivial, ?_⟩
          gi_wp2
          exact ⟨(KeepsOthers.setCell _ _ _).from _, ⟨rfl, HN.out⟩, hbw.setCell (by show _ ≤ w.heap.size + 1; omega) _⟩
        · obtain ⟨j, rfl⟩ := Int.eq_ofNat_of_zero_le (show 0 ≤ y by omega)
          have hj : j < m := by omega
          have f4 := H4.out j hj
          have f5 := H5.out j hj
          by_cases hmem : (j : Int) ∈ pre
          · have hno : ¬ (pre ++ [(j : Int)]) <+: upto p m m := fun h => by
              have h1 := (prefix_next p m HP.out hlt).1 h
              obtain ⟨q, hq, he⟩ := prefix_mem p HP.out hmem
              have := pat_inj p HV.out q pre.length (by omega) (by omega) (by rw [← he, ← h1])
              omega
            have HN := Lib.hid hno
            rw [decide_eq_true hmem] at f4
            clear hno hmem
            gi_wp2
            refine ⟨trivial, ?_⟩
            gi_wp2
            exact ⟨(KeepsOthers.setCell _ _ _).from _, ⟨rfl, HN.out⟩, hbw.setCell (by show _ ≤ w.heap.size + 1; omega) _⟩
          · rw [decide_eq_false hmem] at f4
            have hiff := prefix_next p m (y := (j : Int)) HP.out hlt
            have herr := errOf_range (x := (pre.length : Int)) HV.out (by omega) (by omega)
            have hat : atOf p m pre.length = pat p m pre.length := by unfold atOf; rw [if_pos herr]
            have HM' := Lib.hid hmem
            by_cases heq : (j : Int) = pat p m pre.length
            · have hd : decide (atOf p m pre.length = (j : Int) ∧ errOf m pre.length = 0) = true := by rw [hat, herr, ← heq]; simp
              have hyes := hiff.2 heq
              have HYES := Lib.hid hyes
              have HD := Lib.hid hd
              clear hd hyes hiff herr hat heq hmem
              gi_wp2_with (refine ⟨trivial, ?_⟩; gi_at_call 11; refine (CallsIn.inRound l (callsIn_wide.2 (lawAt_lit p m pre.length j 0 true HD.out p0 p1 (by omega) (by omega) _))).mono ?_; rintro e w' ⟨rfl, rfl⟩)
              have hmem' : ∀ q : Nat, (decide ((q : Int) ∈ pre ++ [(j : Int)])) = if q = j then true else decide ((q : Int) ∈ pre) := fun q => by
                by_cases hq : q = j
                · subst hq; simp
                · rw [if_neg hq]; simp; intro h; exact absurd (by omega) hq
              refine ⟨((KeepsOthers.setCell _ _ _).trans (KeepsOthers.setCell _ _ _)).from _, ((Below.refl S W).setCell (p := ⟨S, j, none⟩) (Nat.le_refl _) _).setCell (p := ⟨T + 1, 0, none⟩) (by show S ≤ T + 1; omega) _, ⟨?_, ?_, ?_, ?_, ?_, HYES.out, (HB7.out.setCell (p := ⟨S, j, none⟩) (Nat.le_refl _) _).setCell (p := ⟨T + 1, 0, none⟩) (by show S ≤ T + 1; omega) _⟩⟩
              · rw [World.cell?_setCell_other _ _ _ _ (by simp), World.cell?_setCell_other _ _ _ _ (by simp <;> omega)]; exact h1
              · rw [World.cell?_setCell_same' _ _ _ (by rw [World.cell?_setCell_other _ _ _ _ (by simp <;> omega), h2]; rfl)]; simp
              · rw [World.frozen?_setCell, World.frozen?_setCell]; exact h3
              · intro q hq
                rw [World.cell?_setCell_other _ _ _ _ (by simp <;> omega), hmem' q]
                by_cases hqj : q = j
                · subst hqj; rw [if_pos rfl, World.cell?_setCell_same' _ _ _ (by rw [f4]; rfl)]
                · rw [if_neg hqj, World.cell?_setCell_other _ _ _ _ (by simp <;> omega)]; exact H4.out q hq
              · intro q hq
                rw [World.frozen?_setCell, World.frozen?_setCell]; exact H5.out q hq
            · have hd : decide (atOf p m pre.length = (j : Int) ∧ errOf m pre.length = 0) = false := by
                rw [decide_eq_false_iff_not, hat]; rintro ⟨h, _⟩; exact heq h.symm
              have hno : ¬ (pre ++ [(j : Int)]) <+: upto p m m := fun h => heq (hiff.1 h)
              have HN := Lib.hid hno
              have HD := Lib.hid hd
              clear hd hno hiff herr hat heq hmem
              gi_wp2_with (refine ⟨trivial, ?_⟩; gi_at_call 11; refine (CallsIn.inRound l (callsIn_wide.2 (lawAt_lit p m pre.length j 0 false HD.out p0 p1 (by omega) (by omega) _))).mono ?_; rintro e w' ⟨rfl, rfl⟩)
              exact ⟨(KeepsOthers.setCell _ _ _).from _, ⟨rfl, HN.out⟩, hbw.setCell (by show _ ≤ w.heap.size + 1; omega) _⟩
    case done =>
      rintro D ys W hD rfl hs hK
      refine ⟨rfl, D, rfl, hD, ?_, hs.bel, hK⟩
      have := hs.count
      rw [upto_length, HM.out] at this
      exact this
    case stop =>
      rintro D c pre W hD hpre ⟨⟨rfl, hno⟩, hB'⟩ hK
      rw [HM.out] at hpre
      exact absurd hpre hno
  case rest =>
    obtain ⟨rfl, D, rfl, hD, hc, hB1, hKD⟩ := hP1
    have e1 : W.cell? ⟨w.heap.size, 0, none⟩ = some (.int .u64 p) := (hB1.cell (p := ⟨w.heap.size, 0, none⟩) (by show w.heap.size < _; omega)).trans d1
    have e2 : W.cell? ⟨w.heap.size + 1, 0, none⟩ = some (.bool false) := (hB1.cell (p := ⟨w.heap.size + 1, 0, none⟩) (by show w.heap.size + 1 < _; omega)).trans d2
    have e3 : W.frozen? ⟨w.heap.size + 1, 0, none⟩ = false := (hB1.frozen (p := ⟨w.heap.size + 1, 0, none⟩) (by show w.heap.size + 1 < _; omega)).trans d3
    have e4 : W.cell? ⟨w.heap.size + 1 + 1, 0, none⟩ = some (.int .i64 m) := (hB1.cell (p := ⟨w.heap.size + 1 + 1, 0, none⟩) (by show w.heap.size + 1 + 1 < _; omega)).trans d4
    have hbw : Below w.heap.size w W := hbW0.trans (hB1.mono (by omega))
    have hDlt : D < W.heap.size := (Array.getElem?_eq_some_iff.1 hKD).1
    have hws : w.heap.size + 6 ≤ D := by omega
    have hlt1 : w.heap.size + 1 + 1 < W.heap.size := by omega
    have hne : ((m : Int) != (m : Int)) = false := by simp
    clear hseen0 d1 d2 d3 d4 dm dp dg hzW hsh hB1 hD
    subst hA
    by_cases hi0 : i < 0 ∨ (m : Int) ≤ i
    · rcases hi0 with hi0 | hi0
      · go_wp2_with (go_at_call 12; refine (known_any _).mono ?_; rintro e Wk ⟨rfl, hbk⟩; have f1 : Wk.cell? ⟨w.heap.size + 1, 0, none⟩ = some (.bool false) := (hbk.cell (p := ⟨w.heap.size + 1, 0, none⟩) (by show w.heap.size + 1 < _; omega)).trans e2; have f2 : Wk.frozen? ⟨w.heap.size + 1, 0, none⟩ = false := (hbk.frozen (p := ⟨w.heap.size + 1, 0, none⟩) (by show w.heap.size + 1 < _; omega)).trans e3)
        have hKa : (Wk.setCell ⟨w.heap.size + 1, 0, none⟩ (.bool true)).heap[D]? = some (.deferred (some [])) := (Below.heap_setCell _ _ _ _ (by show D ≠ w.heap.size + 1; omega)).trans ((hbk.block D hDlt).trans hKD)
        refine ⟨by simp, .inl ⟨_, _, rfl, run_takeDeferred hKa, ?_⟩⟩
        have hres : ((Wk.setCell ⟨w.heap.size + 1, 0, none⟩ (.bool true)).putObj D (.deferred none)).cell? ⟨w.heap.size + 1, 0, none⟩ = some (.bool true) :=
          cell_kept (World.cell?_setCell_same' _ _ _ (by rw [f1]; rfl)) (grownBy_putObj' _ D _) (fun r e => by cases e; exact ⟨_, hKa, rfl⟩)
        refine ⟨.bool true, by simp [results, Try.results7, go_sem, hres], rfl, ?_⟩
        have hy : Below w.heap.size w (Wk.setCell ⟨w.heap.size + 1, 0, none⟩ (.bool true)) := (hbw.trans (hbk.mono hbw.size)).setCell (by show _ ≤ w.heap.size + 1; omega) _
        exact hy.trans (belowK_b (w := w) (Nat.le_refl _) _ D _ _ (by omega) hKa rfl rfl)
      · have hi1 : ¬ i < 0 := by omega
        go_wp2_with (go_at_call 12; refine (known_any _).mono ?_; rintro e Wk ⟨rfl, hbk⟩; have f1 : Wk.cell? ⟨w.heap.size + 1, 0, none⟩ = some (.bool false) := (hbk.cell (p := ⟨w.heap.size + 1, 0, none⟩) (by show w.heap.size + 1 < _; omega)).trans e2; have f2 : Wk.frozen? ⟨w.heap.size + 1, 0, none⟩ = false := (hbk.frozen (p := ⟨w.heap.size + 1, 0, none⟩) (by show w.heap.size + 1 < _; omega)).trans e3)
        have hKa : (Wk.setCell ⟨w.heap.size + 1, 0, none⟩ (.bool true)).heap[D]? = some (.deferred (some [])) := (Below.heap_setCell _ _ _ _ (by show D ≠ w.heap.size + 1; omega)).trans ((hbk.block D hDlt).trans hKD)
        refine ⟨by simp, .inl ⟨_, _, rfl, run_takeDeferred hKa, ?_⟩⟩
        have hres : ((Wk.setCell ⟨w.heap.size + 1, 0, none⟩ (.bool true)).putObj D (.deferred none)).cell? ⟨w.heap.size + 1, 0, none⟩ = some (.bool true) :=
          cell_kept (World.cell?_setCell_same' _ _ _ (by rw [f1]; rfl)) (grownBy_putObj' _ D _) (fun r e => by cases e; exact ⟨_, hKa, rfl⟩)
        refine ⟨.bool true, by simp [results, Try.results7, go_sem, hres], rfl, ?_⟩
        have hy : Below w.heap.size w (Wk.setCell ⟨w.heap.size + 1, 0, none⟩ (.bool true)) := (hbw.trans (hbk.mono hbw.size)).setCell (by show _ ≤ w.heap.size + 1; omega) _
        exact hy.trans (belowK_b (w := w) (Nat.le_refl _) _ D _ _ (by omega) hKa rfl rfl)
    · obtain ⟨j, rfl⟩ := Int.eq_ofNat_of_zero_le (show 0 ≤ i by omega)
      have hj : (j : Int) < m := by omega
      have herr := errOf_range (x := (j : Int)) HV.out (by omega) hj
      have HA := Lib.hid (show atOf p m j = pat p m j from by unfold atOf; rw [if_pos herr])
      obtain ⟨p', hp'⟩ : ∃ p', IntKind.u64.wrap (p + IntKind.u64.wrap (more * (m : Int))) = p' := ⟨_, rfl⟩
      have hp'r : 0 ≤ p' ∧ p' < 18446744073709551616 := by rw [← hp', IntKind.wrap_u64]; omega
      have HA' := Lib.hid (show atOf p' m j = pat p m j from by
        unfold atOf; rw [if_pos herr]
        obtain ⟨q, hq, hqm⟩ := (validB_iff _).1 HV.out
        rw [← hp', IntKind.wrap_u64, IntKind.wrap_u64]
        unfold pat
        have h1 : (p + more * (m : Int) % 18446744073709551616) % 18446744073709551616 = (p + more * m) % 18446744073709551616 := by rw [Int.add_emod_emod]
        rw [h1, Int.add_emod, hqm, emod_wrap _ q hq, ← hqm, ← Int.add_emod, Int.add_right_comm, Int.add_mul_emod_self_right])
      have HE := Lib.hid herr
      have hr := pat_range p (show (0 : Int) < m by omega) j
      have HIx := Lib.hid (show decide (indexOf p m (pat p m j) = j ∧ errOf m (pat p m j) = 0) = true from by
        rw [indexOf_eq HV.out hj rfl, errOf_range HV.out hr.1 hr.2]; simp)
      have hi1 : ¬ (j : Int) < 0 := by omega
      clear hi0 herr
      obtain ⟨r0, r1⟩ := hp'r
      go_wp2_with fail
      refine (At_any p m j p0 p1 (by omega) (by omega) _).mono ?_
      rintro e w' ⟨rfl, rfl⟩
      rw [HA.out, HE.out]
      go_wp2_with fail
      refine (At_any p' m j r0 r1 (by omega) (by omega) _).mono ?_
      rintro e w' ⟨rfl, rfl⟩
      rw [HA'.out, HE.out]
      go_wp2_with fail
      refine (lawIndex_lit p m _ _ _ true HIx.out p0 p1 (by omega) (by omega) _).mono ?_
      rintro e W4 ⟨rfl, hb4⟩
      go_wp2_with (go_at_call 12; refine (known_any _).mono ?_; rintro e Wk ⟨rfl, hbk0⟩; have hbk := hb4.trans (hbk0.mono hb4.size); have f1 : Wk.cell? ⟨w.heap.size + 1, 0, none⟩ = some (.bool false) := (hbk.cell (p := ⟨w.heap.size + 1, 0, none⟩) (by show w.heap.size + 1 < _; omega)).trans e2; have f2 : Wk.frozen? ⟨w.heap.size + 1, 0, none⟩ = false := (hbk.frozen (p := ⟨w.heap.size + 1, 0, none⟩) (by show w.heap.size + 1 < _; omega)).trans e3)
      have hKa : (Wk.setCell ⟨w.heap.size + 1, 0, none⟩ (.bool true)).heap[D]? = some (.deferred (some [])) := (Below.heap_setCell _ _ _ _ (by show D ≠ w.heap.size + 1; omega)).trans ((hbk.block D hDlt).trans hKD)
      refine ⟨by simp, .inl ⟨_, _, rfl, run_takeDeferred hKa, ?_⟩⟩
      have hres : ((Wk.setCell ⟨w.heap.size + 1, 0, none⟩ (.bool true)).putObj D (.deferred none)).cell? ⟨w.heap.size + 1, 0, none⟩ = some (.bool true) :=
        cell_kept (World.cell?_setCell_same' _ _ _ (by rw [f1]; rfl)) (grownBy_putObj' _ D _) (fun r e => by cases e; exact ⟨_, hKa, rfl⟩)
      refine ⟨.bool true, by simp [results, Try.results7, go_sem, hres], rfl, ?_⟩
      have hy : Below w.heap.size w (Wk.setCell ⟨w.heap.size + 1, 0, none⟩ (.bool true)) := (hbw.trans (hbk.mono hbw.size)).setCell (by show _ ≤ w.heap.size + 1; omega) _
      exact hy.trans (belowK_b (w := w) (Nat.le_refl _) _ D _ _ (by omega) hKa rfl rfl)

theorem probeHolds_walk (a0 a1 a2 a3 : Int) (w0 : (Lit.int .u64 a0).wf = true) (w1 : (Lit.int .i64 a1).wf = true) (w2 : (Lit.int .u64 a2).wf = true) (w3 : (Lit.int .i64 a3).wf = true) (w : World) :
    Calls Try.prog 7 #[.int .u64 a0, .int .i64 a1, .int .u64 a2, .int .i64 a3] w fun e w' => e = .returned (.bool true) ∧ Below w.heap.size w w' := by
  have hp := bounds_u64 w0
  have hq := bounds_u64 w2
  clear w0 w1 w2 w3
  by_cases h0 : 0 ≤ a1 ∧ a1 ≤ 12
  · obtain ⟨k, rfl⟩ := Int.eq_ofNat_of_zero_le h0.1
    exact holds_go a0 k a2 a3 (by omega) (by omega) (by omega) (by omega) (by omega) w
  · rcases (show a1 < 0 ∨ (0 ≤ a1 ∧ 12 < a1) by omega) with h1 | ⟨h1, h2⟩
    all_goals
      clear h0
      go_enter Try.func7, Try.ntmps7
      go_wp2_with (go_at_call 12; refine (known_any _).mono ?_; rintro e Wk ⟨rfl, hbk⟩; simp only [World.size_alloc] at hbk; have f1 : Wk.cell? ⟨w.heap.size + 1, 0, none⟩ = some (.bool false) := (hbk.cell (p := ⟨w.heap.size + 1, 0, none⟩) (by show w.heap.size + 1 < _; omega)).trans (by simp [go_sem]); have f2 : Wk.frozen? ⟨w.heap.size + 1, 0, none⟩ = false := (hbk.frozen (p := ⟨w.heap.size + 1, 0, none⟩) (by show w.heap.size + 1 < _; omega)).trans (by simp [go_sem]))
      have hres : (Wk.setCell ⟨w.heap.size + 1, 0, none⟩ (.bool true)).cell? ⟨w.heap.size + 1, 0, none⟩ = some (.bool true) := World.cell?_setCell_same' _ _ _ (by rw [f1]; rfl)
      refine bodyPost_ret (v := .bool true) (by simp [results, Try.results7, go_sem, hres]) rfl ⟨rfl, ?_⟩
      exact ((((Below.refl _ w).alloc (Nat.le_refl _) _).alloc (by simp) _).trans (hbk.mono (by omega))).setCell (by show _ ≤ w.heap.size + 1; omega) _
end Go.Proofs.Ytkigfmfofnhknaa
