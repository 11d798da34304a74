/-
  The walk of the law ProbeIterates: it returns true, and writes nothing that was there.
-/
import Derived.Test.YtkigfmfofnhknaaH
namespace Go.Proofs.Ytkigfmfofnhknaa
open Go.ChangeShapes Go.WideShapes Go.ChangeAt Go.RowKit Go.Shelf
set_option linter.unusedVariables false
attribute [local go_sem] Oper.semAt_some

/-- What the law's loops read, in every world between them. -/
structure Env (p g many : Int) (w : World) (B gb o m c : Nat) (xs : List Int) (W : World) : Prop where
  bel : Below w.heap.size w W
  size : B + 1 + 3 ≤ W.heap.size
  base : w.heap.size + 2 ≤ B
  row : gb < B
  many : W.cell? ⟨w.heap.size, 0, none⟩ = some (.int .i64 many)
  res : W.cell? ⟨w.heap.size + 1, 0, none⟩ = some (.bool false)
  free : W.frozen? ⟨w.heap.size + 1, 0, none⟩ = false
  want : W.cell? ⟨B, 0, none⟩ = some (.slice (some ⟨gb, o, none⟩) m c)
  elem : ∀ k, k < m → W.cell? ⟨gb, o + k, none⟩ = some (.int .i64 (xs.getD k 0))
  im : W.cell? ⟨B + 1 + 1 + 1, 0, none⟩ = some (.int .i64 (manyOf g))
  ip : W.cell? ⟨B + 1, 0, none⟩ = some (.int .u64 p)
  ig : W.cell? ⟨B + 1 + 1, 0, none⟩ = some (.int .i64 g)
theorem Env.below {p g many : Int} {w : World} {B gb o m c : Nat} {xs : List Int} {W W' : World} (h : Env p g many w B gb o m c xs W) (hb : Below (B + 1 + 3) W W') : Env p g many w B gb o m c xs W' := by
  obtain ⟨h1, h2, h3, h4, h5, h6, h7, h8, h9, h10, h11, h12⟩ := h
  refine ⟨h1.trans (hb.mono (by omega)), Nat.le_trans h2 hb.size, h3, h4, ?_, ?_, ?_, ?_, ?_, ?_, ?_, ?_⟩
  · exact (hb.cell (p := ⟨w.heap.size, 0, none⟩) (by show w.heap.size < _; omega)).trans h5
  · exact (hb.cell (p := ⟨w.heap.size + 1, 0, none⟩) (by show w.heap.size + 1 < _; omega)).trans h6
  · exact (hb.frozen (p := ⟨w.heap.size + 1, 0, none⟩) (by show w.heap.size + 1 < _; omega)).trans h7
  · exact (hb.cell (p := ⟨B, 0, none⟩) (by show B < _; omega)).trans h8
  · intro k hk; exact (hb.cell (p := ⟨gb, o + k, none⟩) (by show gb < _; omega)).trans (h9 k hk)
  · exact (hb.cell (p := ⟨B + 1 + 1 + 1, 0, none⟩) (by show B + 1 + 1 + 1 < _; omega)).trans h10
  · exact (hb.cell (p := ⟨B + 1, 0, none⟩) (by show B + 1 < _; omega)).trans h11
  · exact (hb.cell (p := ⟨B + 1 + 1, 0, none⟩) (by show B + 1 + 1 < _; omega)).trans h12

/-- How the first loop may be left from within: by its break, or by the return of false. -/
def Left1 (B : Nat) (many : Int) (xs : List Int) (w W0 : World) (c : Code) (pre : List Int) (W : World) : Prop :=
  ((c = .exit 2 → W.cell? ⟨B + 1 + 3 + 1, 0, none⟩ = some (.int .i64 (pre.length : Nat))) ∧ ((c = .exit 2 ∧ many ≤ pre.length ∧ 1 ≤ pre.length ∧ (pre.length = 1 ∨ (pre.length : Int) - 1 < many)) ∨ (c = .ret ∧ ¬ pre <+: xs))) ∧ Below w.heap.size w W ∧ (c = .exit 2 → Below (B + 1 + 3 + 1) W0 W)
theorem left1_ret {B : Nat} {many : Int} {xs : List Int} {w W0 : World} {pre : List Int} {W : World} (h : ¬ pre <+: xs) (hb : Below w.heap.size w W) : Left1 B many xs w W0 .ret pre W :=
  ⟨⟨fun h => (by cases h), .inr ⟨rfl, h⟩⟩, hb, fun h => (by cases h)⟩
theorem left1_exit {B : Nat} {many : Int} {xs : List Int} {w W0 : World} {pre : List Int} {W : World} (hc : W.cell? ⟨B + 1 + 3 + 1, 0, none⟩ = some (.int .i64 (pre.length : Nat))) (h1 : many ≤ pre.length) (h2 : 1 ≤ pre.length) (h3 : pre.length = 1 ∨ (pre.length : Int) - 1 < many) (hb : Below w.heap.size w W) (hb' : Below (B + 1 + 3 + 1) W0 W) : Left1 B many xs w W0 (.exit 2) pre W :=
  ⟨⟨fun _ => hc, .inl ⟨rfl, h1, h2, h3⟩⟩, hb, fun _ => hb'⟩
theorem left1_own {B : Nat} {many : Int} {xs : List Int} {w W0 : World} (c : Code) (D : Nat) (h1 : w.heap.size ≤ D) (h2 : B + 1 + 3 + 1 ≤ W0.heap.size) (h3 : B + 1 + 3 + 1 ≤ D) : OwnFrom D (Left1 B many xs w W0 c) :=
  OwnFrom.and (OwnFrom.and (Own.from (I := fun (pre : List Int) W => c = .exit 2 → W.cell? ⟨B + 1 + 3 + 1, 0, none⟩ = some (.int .i64 (pre.length : Nat))) (fun s A B row hs hg hr hc => cell_kept (hs hc) hg hr) _) (ownFrom_pure _ (fun pre : List Int => (c = .exit 2 ∧ many ≤ pre.length ∧ 1 ≤ pre.length ∧ (pre.length = 1 ∨ (pre.length : Int) - 1 < many)) ∨ (c = .ret ∧ ¬ pre <+: xs))))
    (OwnFrom.and (ownFrom_below (Nat.le_refl _) h1) (fun s A B' row hs hg hr hc => ownFrom_below (β := Unit) h2 h3 () A B' row (hs hc) hg hr))
/-- How the second loop may be left from within: by the return of false. -/
def Left2 (xs : List Int) (w : World) (c : Code) (pre : List Int) (W : World) : Prop := (c = .ret ∧ ¬ pre <+: xs) ∧ Below w.heap.size w W
theorem left2_own {xs : List Int} {w : World} (c : Code) (D : Nat) (h1 : w.heap.size ≤ D) : OwnFrom D (Left2 xs w c) :=
  OwnFrom.and (ownFrom_pure _ (fun pre : List Int => c = .ret ∧ ¬ pre <+: xs)) (ownFrom_below (Nat.le_refl _) h1)

/-- A prefix that is one longer has the list's own next element at its end. -/
theorem prefix_next {xs pre : List Int} {y : Int} (hp : pre <+: xs) (hl : pre.length < xs.length) : (pre ++ [y]) <+: xs ↔ y = xs.getD pre.length 0 := by
  obtain ⟨r, rfl⟩ := hp
  cases r with
  | nil => simp at hl
  | cons z r =>
    rw [List.getD_eq_getElem?_getD, List.getElem?_append_right (Nat.le_refl _)]
    simp

/-- What lies behind the first loop, whichever way it was left. -/
def Post1 (A0 : Act) (B m : Nat) (many : Int) (W0 : World) (e : Exit) (a : Act) (W : World) : Prop :=
  (e = .normal ∨ e = .exit 2) ∧ ∃ (D K1 : Nat), a = { A0 with defers := { target := .collected D, args := #[] } :: A0.defers } ∧ W0.heap.size ≤ D ∧ (K1 : Int) = min (m : Int) (max 1 many) ∧
    W.cell? ⟨B + 1 + 3 + 1, 0, none⟩ = some (.int .i64 K1) ∧ Below (B + 1 + 3 + 1) W0 W ∧ W.heap[D]? = some (.deferred (some []))
/-- What lies behind the second loop. -/
def Post2 (A0 : Act) (F m : Nat) (W0 : World) (e : Exit) (a : Act) (W : World) : Prop :=
  e = .normal ∧ ∃ D : Nat, a = { A0 with defers := { target := .collected D, args := #[] } :: A0.defers } ∧ W0.heap.size ≤ D ∧
    W.cell? ⟨F, 0, none⟩ = some (.int .i64 m) ∧ Below F W0 W ∧ W.heap[D]? = some (.deferred (some []))

set_option maxRecDepth 100000 in
set_option maxHeartbeats 4000000 in
theorem iterates_go (p g many : Int) (p0 : 0 ≤ p) (p1 : p < 18446744073709551616) (hv : validB g = true) (hg4 : g ≤ 4096) (m0 : -9223372036854775808 ≤ many) (m1 : many ≤ 9223372036854775807) (w : World) :
    Calls Try.prog 6 #[.int .u64 p, .int .i64 g, .int .i64 many] w fun e w' => e = .returned (.bool true) ∧ Below w.heap.size w w' := by
  have hg := valid_bounds hv
  have b0 : -9223372036854775808 ≤ g := by omega
  have b1 : g ≤ 9223372036854775807 := by omega
  have hef := eql_func
  have he : (errOf g 0 != 0) = false := by rw [errOf_0 hv]; rfl
  have hmany : manyOf g = g.toNat := by unfold manyOf; rw [if_pos hv]
  obtain ⟨m, hm⟩ : ∃ m : Nat, g = m := ⟨g.toNat, by omega⟩
  have hxl : (seqOf p g).length = m := by rw [← seqOf_many, upto_length, hmany]; omega
  have HV := Lib.hid hv
  have HX := Lib.hid hxl
  have HM := Lib.hid hm
  clear hxl hmany hv hm
  refine (callsIn_wide (n := 4)).1 ?_
  refine callsIn_of_wp_marks Try.func6 rfl trivial ?_ rfl
  simp only [Try.ntmps6, List.size_toArray, List.length_cons, List.length_nil, Nat.reduceAdd, Nat.reduceSub, Array.replicate_succ, Array.replicate_zero, List.push_toArray, List.append_toArray, List.nil_append, List.cons_append]
  refine wpIn_wide.2 ?_
  have hvt := HV.out
  go_wp2_with (go_at_call 10; refine (refValid_any g _).mono ?_; rintro e w' ⟨rfl, rfl⟩)
  refine (refAll_any p g p0 p1 _).mono ?_
  rintro e W1 ⟨v, rfl, hown, hb1⟩
  simp only [World.size_alloc] at hown hb1
  have hI := Ints.of_own hown
  rw [HX.out] at hown
  obtain ⟨A, c, hve, hAc⟩ := hI
  rw [HX.out] at hve
  subst hve
  obtain ⟨gb, o, y0, hA, hgb, _, _⟩ := hAc 0 (by rw [HX.out]; have := HM.out; omega)
  subst hA
  have HA : Hid (∀ k (hk : k < m), W1.cell? ⟨gb, o + k, none⟩ = some (.int .i64 ((seqOf p g).getD k 0))) := fun k hk => by
    obtain ⟨g', o', y, hA', _, hy, hc⟩ := hAc k (by rw [HX.out]; exact hk)
    obtain ⟨rfl, rfl⟩ : gb = g' ∧ o = o' := by simpa using hA'
    rw [hc, List.getD_eq_getElem?_getD, hy]; rfl
  obtain ⟨B, hB⟩ : ∃ B, W1.heap.size = B := ⟨_, rfl⟩
  rw [hB] at hgb
  have hBN : w.heap.size + 2 ≤ B := by have := hb1.size; simp at this; omega
  clear hAc hown hvt
  have hw1 : Below w.heap.size w W1 := (((Below.refl _ w).alloc (Nat.le_refl _) _).alloc (by simp) _).trans (hb1.mono (by omega))
  have c1 : W1.cell? ⟨w.heap.size, 0, none⟩ = some (.int .i64 many) := (hb1.cell (p := ⟨w.heap.size, 0, none⟩) (by show w.heap.size < _; omega)).trans (by simp [go_sem, World.cell?_alloc_past])
  have c2 : W1.cell? ⟨w.heap.size + 1, 0, none⟩ = some (.bool false) := (hb1.cell (p := ⟨w.heap.size + 1, 0, none⟩) (by show w.heap.size + 1 < _; omega)).trans (by simp [go_sem])
  have c3 : W1.frozen? ⟨w.heap.size + 1, 0, none⟩ = false := (hb1.frozen (p := ⟨w.heap.size + 1, 0, none⟩) (by show w.heap.size + 1 < _; omega)).trans (by simp [go_sem])
  clear hb1
  go_wp2_with (go_at_call 17; refine (All_any p g b0 b1 _).mono ?_; rintro e w2 ⟨rfl, hbel, hsz, hmc, hpc, hgc⟩; simp only [World.size_alloc, hB] at hbel hsz hmc hpc hgc)
  have hE2 : Env p g many w B gb o m c (seqOf p g) w2 := by
    refine ⟨hw1.trans ((((Below.refl _ W1).alloc (Nat.le_refl _) _).mono (by omega)).trans (hbel.mono (by omega))), by omega, hBN, hgb, ?_, ?_, ?_, ?_, ?_, hmc, hpc, hgc⟩
    · exact (hbel.cell (p := ⟨w.heap.size, 0, none⟩) (by show w.heap.size < _; omega)).trans ((((Below.refl _ W1).alloc (Nat.le_refl _) _).cell (p := ⟨w.heap.size, 0, none⟩) (by show w.heap.size < _; omega)).trans c1)
    · exact (hbel.cell (p := ⟨w.heap.size + 1, 0, none⟩) (by show w.heap.size + 1 < _; omega)).trans ((((Below.refl _ W1).alloc (Nat.le_refl _) _).cell (p := ⟨w.heap.size + 1, 0, none⟩) (by show w.heap.size + 1 < _; omega)).trans c2)
    · exact (hbel.frozen (p := ⟨w.heap.size + 1, 0, none⟩) (by show w.heap.size + 1 < _; omega)).trans ((((Below.refl _ W1).alloc (Nat.le_refl _) _).frozen (p := ⟨w.heap.size + 1, 0, none⟩) (by show w.heap.size + 1 < _; omega)).trans c3)
    · exact (hbel.cell (p := ⟨B, 0, none⟩) (by show B < _; omega)).trans (by rw [← hB]; simp [go_sem])
    · intro k hk; exact (hbel.cell (p := ⟨gb, o + k, none⟩) (by show gb < _; omega)).trans ((((Below.refl _ W1).alloc (Nat.le_refl _) _).cell (p := ⟨gb, o + k, none⟩) (by show gb < _; omega)).trans (HA.out k hk))
  clear HA c1 c2 c3 hw1 hmc hpc hgc hbel hgb
  have HE2 := Lib.hid hE2
  clear hE2
  have hpre : ∀ q : List Int, q <+: seqOf p g → q.length ≤ m := fun q hq => by rw [← HX.out]; exact hq.length_le
  have HP := Lib.hid hpre
  clear hpre
  have hm1 : 1 ≤ m := by have := HM.out; omega
  have hm4 : m ≤ 4096 := by have := HM.out; omega
  refine wp_loop_rounds 3 ?_
  rw [rounds_succ]
  go_wp2_with fail
  obtain ⟨W0, hW0⟩ : ∃ W0, (w2.alloc (.cells #[.int .i64 0] 3)).alloc (.cells #[.int .i64 0] 3) = W0 := ⟨_, rfl⟩
  rw [hW0]
  have hz0 : W0.heap.size = B + 1 + 3 + 1 + 1 := by rw [← hW0]; simp [hsz]
  have hb20 : Below (B + 1 + 3) w2 W0 := by rw [← hW0]; exact ((Below.refl _ _).alloc (by omega) _).alloc (by simp; omega) _
  have hct0 : W0.cell? ⟨B + 1 + 3, 0, none⟩ = some (.int .i64 0) := by rw [← hW0, ← hsz]; simp [go_sem, World.cell?_alloc_past]
  have hck0 : W0.cell? ⟨B + 1 + 3 + 1, 0, none⟩ = some (.int .i64 0) := by rw [← hW0, ← hsz]; simp [go_sem]
  have hfk0 : W0.frozen? ⟨B + 1 + 3 + 1, 0, none⟩ = false := by rw [← hW0, ← hsz]; simp [go_sem]
  have HE0 := Lib.hid (HE2.out.below hb20)
  clear hW0
  generalize hA : Act.mk _ _ = A0
  refine Code.wp_mono (Q := Post1 A0 B m many W0) (fun e a W hP1 => ?rest) ?main
  case main =>
    refine (wpIn_wide (n := 4)).1 ?_
    refine wpIn_rangeFunc_ownG rfl (by omega) (gf := 22) (lb := #[.pointer (some ⟨B + 1 + 1 + 1, 0, none⟩), .pointer (some ⟨B + 1, 0, none⟩), .pointer (some ⟨B + 1 + 1, 0, none⟩)]) (by rw [← hA]; rfl) trivial (enters_of Try.func22 (by kernel_rfl) rfl)
      (iter_stops (4 - 1) (by omega) (B + 1 + 1 + 1) (B + 1) (B + 1 + 1) (B + 1 + 3) p g p0 p1 W0 (by omega) (by omega) (by omega) (by omega) HE0.out.im HE0.out.ip HE0.out.ig)
      belowK_t (belowK_b (by omega)) (Below.refl _ _) (fun _ => rfl)
      (fun pre W => ((W.cell? ⟨B + 1 + 3 + 1, 0, none⟩ = some (.int .i64 (pre.length : Nat)) ∧ W.frozen? ⟨B + 1 + 3 + 1, 0, none⟩ = false) ∧ (pre <+: seqOf p g ∧ (pre = [] ∨ (pre.length : Int) < many))) ∧ Below (B + 1 + 3 + 1) W0 W)
      (Left1 B many (seqOf p g) w W0)
      (OwnFrom.and (OwnFrom.and (Own.from (fun s A B row hs hg hr => ⟨cell_kept hs.1 hg hr, (frozen_kept hs.1 hg hr).trans hs.2⟩) _) (ownFrom_pure _ (fun pre : List Int => pre <+: seqOf p g ∧ (pre = [] ∨ (pre.length : Int) < many)))) (ownFrom_below (by omega) (by omega)))
      (fun c => left1_own c _ (by omega) (by omega) (by omega))
      ⟨⟨⟨hck0, hfk0⟩, List.nil_prefix, .inl rfl⟩, Below.refl _ _⟩
      (fun y => { tmps := (A0.tmps.setIfInBounds 41 (.int .i64 y)).setIfInBounds 12 (.int .i64 y), defers := [] }) ?assign ?body ?done ?stop
    case assign =>
      intro l y W K hK
      subst hA
      simp only [List.setIfInBounds_toArray, List.set_cons_zero, List.set_cons_succ] at hK
      gi_wp2
      exact hK
    case body =>
      rintro l pre y W ⟨⟨⟨hc, hf⟩, hp1, hp2⟩, hB'⟩ hlt
      have hE := HE0.out.below (hB'.mono (by omega))
      have hpl := HP.out pre hp1
      have e1 := hE.many
      have e2 := hE.res
      have e3 := hE.free
      have e4 := hE.want
      have e5 := hE.elem
      have e6 := hE.base
      have e7 : W.cell? ⟨B + 1 + 3, 0, none⟩ = some (.int .i64 0) := (hB'.cell (p := ⟨B + 1 + 3, 0, none⟩) (by show B + 1 + 3 < _; omega)).trans hct0
      have hbw := hE.bel
      have HP1 := Lib.hid hp1
      have HZ := Lib.hid hz0
      clear hE hlt hz0 hct0 hck0 hfk0 hp1 hb20 hsz hB
      subst hA
      simp only [List.setIfInBounds_toArray, List.set_cons_zero, List.set_cons_succ]
      by_cases hq : m ≤ pre.length
      · have hno : ¬ (pre ++ [y]) <+: seqOf p g := fun h => by have := HP.out _ h; simp at this; omega
        have HN := Lib.hid hno
        clear hno e5 hp2
        gi_wp2
        exact ⟨(KeepsOthers.setCell _ _ _).from _, left1_ret HN.out (hbw.setCell (by show _ ≤ w.heap.size + 1; omega) _)⟩
      · have e5' := e5 pre.length (by omega)
        obtain ⟨Y, hY⟩ : ∃ Y, Y = (seqOf p g).getD pre.length 0 := ⟨_, rfl⟩
        rw [← hY] at e5'
        have HY := Lib.hid hY
        clear e5 hY
        have i0 : (0 : Int) ≤ (pre.length : Int) := by omega
        have i1 : (pre.length : Int) < (m : Int) := by omega
        have hnx := prefix_next (y := y) HP1.out (by rw [HX.out]; omega)
        rw [← HY.out] at hnx
        have HNX := Lib.hid hnx
        clear hnx
        by_cases hyY : y = Y
        · have hne : (y != Y) = false := by rw [hyY]; simp
          have hyes := HNX.out.2 hyY
          have HYES := Lib.hid hyes
          clear hyes hyY
          by_cases hmm : many ≤ (pre.length : Int) + 1
          · have HP2 := Lib.hid hp2
            clear hp2
            gi_wp2
            refine ⟨(KeepsOthers.setCell _ _ _).from _, left1_exit ?_ ?_ ?_ ?_ (hbw.setCell (by show _ ≤ B + 1 + 3 + 1; omega) _) (hB'.setCell (Nat.le_refl _) _)⟩
            · rw [World.cell?_setCell_same' _ _ _ (by rw [hc]; rfl)]; simp
            · simp; omega
            · simp
            · rcases HP2.out with h | h
              · left; simp [h]
              · right; simp; omega
          · clear hp2
            gi_wp2
            refine ⟨(KeepsOthers.setCell _ _ _).from _, (Below.refl _ _).setCell (by show _ ≤ B + 1 + 3 + 1; omega) _, ⟨⟨?_, ?_⟩, HYES.out, .inr ?_⟩, hB'.setCell (Nat.le_refl _) _⟩
            · rw [World.cell?_setCell_same' _ _ _ (by rw [hc]; rfl)]; simp
            · rw [World.frozen?_setCell]; exact hf
            · simp; omega
        · have hne : (y != Y) = true := by rw [bne_iff_ne]; exact hyY
          have hno : ¬ (pre ++ [y]) <+: seqOf p g := fun h => hyY (HNX.out.1 h)
          have HN := Lib.hid hno
          clear hno hp2 hyY
          gi_wp2
          exact ⟨(KeepsOthers.setCell _ _ _).from _, left1_ret HN.out (hbw.setCell (by show _ ≤ w.heap.size + 1; omega) _)⟩
    case done =>
      rintro D ys W hD rfl ⟨⟨⟨hc, hf⟩, hp1, hp2⟩, hB'⟩ hK
      rw [seqOf_many] at hc hp2
      rw [HX.out] at hc hp2
      refine ⟨.inl rfl, D, m, rfl, hD, ?_, hc, hB', hK⟩
      rcases hp2 with h | h
      · exfalso; have := HX.out; rw [h] at this; simp at this; omega
      · omega
    case stop =>
      rintro D c pre W hD hpre ⟨⟨hc, hcc⟩, hbw, hB'⟩ hK
      rcases hcc with ⟨rfl, h1, h2, h3⟩ | ⟨rfl, hno⟩
      · have hpm := HP.out pre (by rw [← seqOf_many]; exact hpre)
        exact wpIn_exit ⟨.inr rfl, D, pre.length, rfl, hD, by omega, hc rfl, hB' rfl, hK⟩
      · exact absurd (by rw [← seqOf_many]; exact hpre) hno
  case rest =>
    obtain ⟨he', D, K1, rfl, hD, hK1, hc, hB1, hKD⟩ := hP1
    have hE := HE0.out.below (hB1.mono (by omega))
    have e1 := hE.many
    have e2 := hE.res
    have e3 := hE.free
    have e4 := hE.want
    have e6 := hE.base
    have e7 : W.cell? ⟨B + 1 + 3, 0, none⟩ = some (.int .i64 0) := (hB1.cell (p := ⟨B + 1 + 3, 0, none⟩) (by show B + 1 + 3 < _; omega)).trans hct0
    have e8 : B + 1 + 3 + 1 + 1 ≤ W.heap.size := by have := hB1.size; omega
    have hDlt : D < W.heap.size := (Array.getElem?_eq_some_iff.1 hKD).1
    have HEW := Lib.hid hE
    have HZ := Lib.hid hz0
    have HD := Lib.hid hD
    have k0 : (1 : Int) ≤ K1 := by omega
    have k1 : (K1 : Int) ≤ m := by omega
    have hK3 : (many ≤ 1 ∧ (K1 : Int) ≤ 1 ∧ (m : Int) ≤ 1) ∨ (many ≤ 1 ∧ (K1 : Int) ≤ 1 ∧ (1 : Int) < m) ∨ (1 < many ∧ many < m ∧ (K1 : Int) ≤ many ∧ many ≤ K1) ∨ (1 < many ∧ (m : Int) ≤ many ∧ (m : Int) ≤ K1) := by omega
    clear hE hct0 hck0 hfk0 hb20 hsz hB hK1 hz0 hD
    subst hA
    rcases hK3 with ⟨k2, k3, k4⟩ | ⟨k2, k3, k4⟩ | ⟨k2, k3, k4, k5⟩ | ⟨k2, k3, k4⟩
    all_goals rcases he' with rfl | rfl
    all_goals
      go_wp2_with fail
      rw [rounds_succ]
      go_wp2_with fail
    all_goals
      have HE3 := HEW
      obtain ⟨W3, hW3⟩ : ∃ W3, (W.alloc (.cells #[.int .i64 1] 3)).alloc (.cells #[.int .i64 0] 3) = W3 := ⟨_, rfl⟩
      rw [hW3]
      obtain ⟨F, hF⟩ : ∃ F, W.heap.size = F := ⟨_, rfl⟩
      simp only [hF]
      have hz3 : W3.heap.size = F + 1 + 1 := by rw [← hW3]; simp [hF]
      have hb3 : Below F W W3 := by rw [← hW3]; exact ((Below.refl _ _).alloc (by omega) _).alloc (by simp; omega) _
      have hct3 : W3.cell? ⟨F, 0, none⟩ = some (.int .i64 1) := by rw [← hW3, ← hF]; simp [go_sem, World.cell?_alloc_past]
      have hck3 : W3.cell? ⟨F + 1, 0, none⟩ = some (.int .i64 0) := by rw [← hW3, ← hF]; simp [go_sem]
      have hfk3 : W3.frozen? ⟨F + 1, 0, none⟩ = false := by rw [← hW3, ← hF]; simp [go_sem]
      have HE3 := Lib.hid (HEW.out.below (hb3.mono (by omega)))
      have hKD3 : W3.heap[D]? = some (.deferred (some [])) := (hb3.block D (by omega)).trans hKD
      have hF8 : B + 1 + 3 + 1 + 1 ≤ F := by omega
      clear hW3 e1 e2 e3 e4 e6 e7 hc hKD hb3 hB1 k0 k1 k2 k3 k4 HEW
      generalize hA : Act.mk _ _ = A0
      refine Code.wp_mono (Q := Post2 A0 (F + 1) m W3) (fun e a W hP1 => ?_) ?_
      rotate_left
      · refine (wpIn_wide (n := 4)).1 ?_
        refine wpIn_rangeFunc_ownG rfl (by omega) (gf := 22) (lb := #[.pointer (some ⟨B + 1 + 1 + 1, 0, none⟩), .pointer (some ⟨B + 1, 0, none⟩), .pointer (some ⟨B + 1 + 1, 0, none⟩)]) (by rw [← hA]; rfl) trivial (enters_of Try.func22 (by kernel_rfl) rfl)
          (iter_stops (4 - 1) (by omega) (B + 1 + 1 + 1) (B + 1) (B + 1 + 1) (B + 1 + 3) p g p0 p1 W3 (by omega) (by omega) (by omega) (by omega) HE3.out.im HE3.out.ip HE3.out.ig)
          belowK_t (belowK_b (by omega)) (Below.refl _ _) (fun _ => rfl)
          (fun pre W => ((W.cell? ⟨F + 1, 0, none⟩ = some (.int .i64 (pre.length : Nat)) ∧ W.frozen? ⟨F + 1, 0, none⟩ = false) ∧ (pre <+: seqOf p g)) ∧ Below (F + 1) W3 W)
          (Left2 (seqOf p g) w)
          (OwnFrom.and (OwnFrom.and (Own.from (fun s A B row hs hg hr => ⟨cell_kept hs.1 hg hr, (frozen_kept hs.1 hg hr).trans hs.2⟩) _) (ownFrom_pure _ (fun pre : List Int => pre <+: seqOf p g))) (ownFrom_below (by omega) (by omega)))
          (fun c => left2_own c _ (by omega))
          ⟨⟨⟨hck3, hfk3⟩, List.nil_prefix⟩, Below.refl _ _⟩
          (fun y => { tmps := (A0.tmps.setIfInBounds 41 (.int .i64 y)).setIfInBounds 12 (.int .i64 y), defers := [] }) ?_ ?_ ?_ ?_
        · intro l y W K hK
          subst hA
          simp only [List.setIfInBounds_toArray, List.set_cons_zero, List.set_cons_succ] at hK
          gi_wp2
          exact hK
        · rintro l pre y W ⟨⟨⟨hc, hf⟩, hp1⟩, hB'⟩ hlt
          have hE := HE3.out.below (hB'.mono (by omega))
          have hpl := HP.out pre hp1
          have e1 := hE.many
          have e2 := hE.res
          have e3 := hE.free
          have e4 := hE.want
          have e5 := hE.elem
          have e6 := hE.base
          have e7 : W.cell? ⟨F, 0, none⟩ = some (.int .i64 1) := (hB'.cell (p := ⟨F, 0, none⟩) (by show F < _; omega)).trans hct3
          have hbw := hE.bel
          have HP1 := Lib.hid hp1
          have HZ3 := Lib.hid hz3
          clear hE hlt hz3 hct3 hck3 hfk3 hp1 hKD3
          subst hA
          simp only [List.setIfInBounds_toArray, List.set_cons_zero, List.set_cons_succ]
          by_cases hq : m ≤ pre.length
          · have hno : ¬ (pre ++ [y]) <+: seqOf p g := fun h => by have := HP.out _ h; simp at this; omega
            have HN := Lib.hid hno
            clear hno e5
            gi_wp2
            exact ⟨(KeepsOthers.setCell _ _ _).from _, ⟨rfl, HN.out⟩, hbw.setCell (by show _ ≤ w.heap.size + 1; omega) _⟩
          · have e5' := e5 pre.length (by omega)
            obtain ⟨Y, hY⟩ : ∃ Y, Y = (seqOf p g).getD pre.length 0 := ⟨_, rfl⟩
            rw [← hY] at e5'
            have HY := Lib.hid hY
            clear e5 hY
            have i0 : (0 : Int) ≤ (pre.length : Int) := by omega
            have i1 : (pre.length : Int) < (m : Int) := by omega
            have hnx := prefix_next (y := y) HP1.out (by rw [HX.out]; omega)
            rw [← HY.out] at hnx
            have HNX := Lib.hid hnx
            clear hnx
            by_cases hyY : y = Y
            · have hne : (y != Y) = false := by rw [hyY]; simp
              have hyes := HNX.out.2 hyY
              have HYES := Lib.hid hyes
              clear hyes hyY
              gi_wp2
              refine ⟨(KeepsOthers.setCell _ _ _).from _, (Below.refl _ _).setCell (by show _ ≤ F + 1; omega) _, ⟨⟨?_, ?_⟩, HYES.out⟩, hB'.setCell (Nat.le_refl _) _⟩
              · rw [World.cell?_setCell_same' _ _ _ (by rw [hc]; rfl)]; simp
              · rw [World.frozen?_setCell]; exact hf
            · have hne : (y != Y) = true := by rw [bne_iff_ne]; exact hyY
              have hno : ¬ (pre ++ [y]) <+: seqOf p g := fun h => hyY (HNX.out.1 h)
              have HN := Lib.hid hno
              clear hno hyY
              gi_wp2
              exact ⟨(KeepsOthers.setCell _ _ _).from _, ⟨rfl, HN.out⟩, hbw.setCell (by show _ ≤ w.heap.size + 1; omega) _⟩
        · rintro D' ys W hD' rfl ⟨⟨⟨hc, hf⟩, hp1⟩, hB'⟩ hK
          rw [seqOf_many, HX.out] at hc
          exact ⟨rfl, D', rfl, hD', hc, hB', hK⟩
        · rintro D' c pre W hD' hpre ⟨⟨rfl, hno⟩, _⟩ hK
          exact absurd (by rw [← seqOf_many]; exact hpre) hno
      · obtain ⟨rfl, D', rfl, hD', hc, hB2, hKD'⟩ := hP1
        have hE := HE3.out.below (hB2.mono (by omega))
        have e1 := hE.many
        have e2 := hE.res
        have e3 := hE.free
        have e4 := hE.want
        have e6 := hE.base
        have e7 : W.cell? ⟨F, 0, none⟩ = some (.int .i64 1) := (hB2.cell (p := ⟨F, 0, none⟩) (by show F < _; omega)).trans hct3
        have hne : ((m : Int) != (m : Int)) = false := by simp
        have hbw := hE.bel
        have hDlt' : D' < W.heap.size := (Array.getElem?_eq_some_iff.1 hKD').1
        have hKDW : W.heap[D]? = some (.deferred (some [])) := (hB2.block D (by omega)).trans hKD3
        have hDD : D < D' := by omega
        have hws : w.heap.size + 2 ≤ D := by have := HD.out; have := HZ.out; omega
        have hlt1 : w.heap.size + 1 < W.heap.size := by omega
        have HDD := Lib.hid hD'
        clear hE hct3 hck3 hfk3 hz3 hD' hKD3
        subst hA
        go_wp2_with fail
        rw [rounds_succ]
        have hba : Below W.heap.size W (W.alloc (.cells #[.int .i64 2] 3)) := (Below.refl _ _).alloc (Nat.le_refl _) _
        go_wp2_with (go_at_call 12; refine (known_any _).mono ?_; rintro e Wk ⟨rfl, hbk0⟩; have hbk := hba.trans (hbk0.mono (by simp)); have f1 : Wk.cell? ⟨w.heap.size + 1, 0, none⟩ = some (.bool false) := (hbk.cell (p := ⟨w.heap.size + 1, 0, none⟩) hlt1).trans e2; have f2 : Wk.frozen? ⟨w.heap.size + 1, 0, none⟩ = false := (hbk.frozen (p := ⟨w.heap.size + 1, 0, none⟩) hlt1).trans e3)
        have hKa : (Wk.setCell ⟨w.heap.size + 1, 0, none⟩ (.bool true)).heap[D']? = some (.deferred (some [])) := (Below.heap_setCell _ _ _ _ (by show D' ≠ w.heap.size + 1; omega)).trans ((hbk.block D' hDlt').trans hKD')
        have hKb : ((Wk.setCell ⟨w.heap.size + 1, 0, none⟩ (.bool true)).putObj D' (.deferred none)).heap[D]? = some (.deferred (some [])) := (World.putObj_heap_other (by omega)).trans ((Below.heap_setCell _ _ _ _ (by show D ≠ w.heap.size + 1; omega)).trans ((hbk.block D (by omega)).trans hKDW))
        refine ⟨by simp, .inl ⟨_, _, rfl, run_takeDeferred hKa, ?_⟩⟩
        refine ⟨by simp, .inl ⟨_, _, rfl, run_takeDeferred hKb, ?_⟩⟩
        have hres : (((Wk.setCell ⟨w.heap.size + 1, 0, none⟩ (.bool true)).putObj D' (.deferred none)).putObj D (.deferred none)).cell? ⟨w.heap.size + 1, 0, none⟩ = some (.bool true) :=
          cell_kept (cell_kept (World.cell?_setCell_same' _ _ _ (by rw [f1]; rfl)) (grownBy_putObj' _ D' _) (fun r e => by cases e; exact ⟨_, hKa, rfl⟩)) (grownBy_putObj' _ D _) (fun r e => by cases e; exact ⟨_, hKb, rfl⟩)
        refine ⟨.bool true, by simp [results, Try.results6, go_sem, hres], rfl, ?_⟩
        have hy : Below w.heap.size w (Wk.setCell ⟨w.heap.size + 1, 0, none⟩ (.bool true)) := (hbw.trans (hbk.mono hbw.size)).setCell (by show _ ≤ w.heap.size + 1; omega) _
        exact (hy.trans (belowK_b (w := w) (Nat.le_refl _) _ D' _ _ (by omega) hKa rfl rfl)).trans (belowK_b (w := w) (Nat.le_refl _) _ D _ _ (by omega) hKb rfl rfl)

theorem probeIterates_walk (a0 a1 a2 : Int) (w0 : (Lit.int .u64 a0).wf = true) (w1 : (Lit.int .i64 a1).wf = true) (w2 : (Lit.int .i64 a2).wf = true) (w : World) :
    Calls Try.prog 6 #[.int .u64 a0, .int .i64 a1, .int .i64 a2] w fun e w' => e = .returned (.bool true) ∧ Below w.heap.size w w' := by
  have hp := bounds_u64 w0
  have hg := bounds_i64 w1
  have hm := bounds_i64 w2
  clear w0 w1 w2
  by_cases hv : validB a1 = true
  · by_cases h4 : a1 ≤ 4096
    · exact iterates_go a0 a1 a2 (by omega) (by omega) hv h4 (by omega) (by omega) w
    · go_enter Try.func6, Try.ntmps6
      go_wp2_with (first | (go_at_call 10; refine (refValid_any a1 _).mono ?_; rintro e w' ⟨rfl, rfl⟩) | (go_at_call 12; refine (known_any _).mono ?_; rintro e Wk ⟨rfl, hbk⟩; simp only [World.size_alloc] at hbk; have f1 : Wk.cell? ⟨w.heap.size + 1, 0, none⟩ = some (.bool false) := (hbk.cell (p := ⟨w.heap.size + 1, 0, none⟩) (by show w.heap.size + 1 < _; omega)).trans (by simp [go_sem]); have f2 : Wk.frozen? ⟨w.heap.size + 1, 0, none⟩ = false := (hbk.frozen (p := ⟨w.heap.size + 1, 0, none⟩) (by show w.heap.size + 1 < _; omega)).trans (by simp [go_sem])))
      have hres : (Wk.setCell ⟨w.heap.size + 1, 0, none⟩ (.bool true)).cell? ⟨w.heap.size + 1, 0, none⟩ = some (.bool true) := World.cell?_setCell_same' _ _ _ (by rw [f1]; rfl)
      refine bodyPost_ret (v := .bool true) (by simp [results, Try.results6, go_sem, hres]) rfl ⟨rfl, ?_⟩
      exact ((((Below.refl _ w).alloc (Nat.le_refl _) _).alloc (by simp) _).trans (hbk.mono (by omega))).setCell (by show _ ≤ w.heap.size + 1; omega) _
  · have hv' : validB a1 = false := by simpa using hv
    clear hv
    go_enter Try.func6, Try.ntmps6
    go_wp2_with (first | (go_at_call 10; refine (refValid_any a1 _).mono ?_; rintro e w' ⟨rfl, rfl⟩) | (go_at_call 12; refine (known_any _).mono ?_; rintro e Wk ⟨rfl, hbk⟩; simp only [World.size_alloc] at hbk; have f1 : Wk.cell? ⟨w.heap.size + 1, 0, none⟩ = some (.bool false) := (hbk.cell (p := ⟨w.heap.size + 1, 0, none⟩) (by show w.heap.size + 1 < _; omega)).trans (by simp [go_sem]); have f2 : Wk.frozen? ⟨w.heap.size + 1, 0, none⟩ = false := (hbk.frozen (p := ⟨w.heap.size + 1, 0, none⟩) (by show w.heap.size + 1 < _; omega)).trans (by simp [go_sem])))
    have hres : (Wk.setCell ⟨w.heap.size + 1, 0, none⟩ (.bool true)).cell? ⟨w.heap.size + 1, 0, none⟩ = some (.bool true) := World.cell?_setCell_same' _ _ _ (by rw [f1]; rfl)
    refine bodyPost_ret (v := .bool true) (by simp [results, Try.results6, go_sem, hres]) rfl ⟨rfl, ?_⟩
    exact ((((Below.refl _ w).alloc (Nat.le_refl _) _).alloc (by simp) _).trans (hbk.mono (by omega))).setCell (by show _ ≤ w.heap.size + 1; omega) _
end Go.Proofs.Ytkigfmfofnhknaa
