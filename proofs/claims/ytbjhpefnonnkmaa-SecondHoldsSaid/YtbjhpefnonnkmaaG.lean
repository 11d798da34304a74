/-
  The contracts of the reference's New, copy, At, Same and Marks.
-/
import Derived.Test.YtbjhpefnonnkmaaF
namespace Go.Proofs.Ytbjhpefnonnkmaa
open Go.ChangeShapes Go.WideShapes Go.ChangeAt Go.RowKit
set_option linter.unusedVariables false

theorem below_drewN {B : Nat} {a w : World} (h : Below B a w) (n : Nat) : Below B a (w.drewN n) := ⟨h.os, h.tape, h.output, h.size, h.block⟩
theorem info78 : (Try.prog.info? 78).map (fun i => (i.zero, i.size, i.bytes)) = some (some (.agg #[.int .u32 0, .bool false, .bool false]), 3, 8) := by kernel_rfl
theorem ringL_one {R : List Pl} : ∀ u ∈ ringL R, u.oneCell' = true := by
  intro u hu
  obtain ⟨x, hx, hu⟩ := List.mem_flatMap.1 hu
  simp [plC] at hu
  rcases hu with rfl | rfl | rfl <;> rfl
theorem own_shape {w : World} {base : Nat} {e : TypeId} {size : Nat} {v : Value} {n : Nat} {xs : List Value} (h : w.ownsRow base e size v n xs) : ∃ A c, v = .slice A n c := by
  rcases h.2 with ⟨rfl, rfl⟩ | ⟨g, cap, cur, rfl, _⟩
  · exact ⟨none, 0, rfl⟩
  · exact ⟨_, _, rfl⟩
theorem make_rplaces (n : Nat) (hn : n ≤ 1024) (w : World) : (Instr.makeSlice 45 (.int .i64 (n : Nat)) (.int .i64 (n : Nat))).run Try.prog w = .ok (.slice (some ⟨w.heap.size, 0, none⟩) n n) (w.alloc (.cells (zerosC n) 78)) := by
  obtain ⟨i, hi, h1, h2, h3⟩ := info_parts info78
  have := run_make (P := Try.prog) w 45 78 i _ Try.underlying45 hi h1 .i64 .i64 (n : Nat) (n : Nat) (by omega) (by omega) (by rw [h3]; omega) (by omega)
  rw [this, h2]
  simp [zerosC, Value.cells]

/-- The value of a reference cache. -/
def refV (a n cap h : Nat) : Value := .agg #[.slice (some ⟨a, 0, none⟩) n cap, .int .i64 (h : Nat)]
/-- A reference cache is handed back. -/
def RefMade (w : World) (R : List Pl) (h : Nat) (t : Value) (e : Ending) (w' : World) : Prop :=
  ∃ a cap, e = .returned (.tuple #[.agg #[.slice (some ⟨a, 0, none⟩) R.length cap, .int .i64 (h : Nat)], t]) ∧ Below w.heap.size w w' ∧ Row w' 78 a cap R
theorem rnew_ok (n : Nat) (h1 : 1 ≤ n) (h2 : n ≤ 1024) (w : World) : Calls Try.prog 15 #[.int .i64 (n : Nat)] w fun e w' => RefMade w (List.replicate n Pl.no) 0 (.int .i64 0) e w' := by
  have hmk := make_rplaces n h2
  have i1 : ¬ (n : Int) < 1 := by omega
  have i2 : ¬ (1024 : Int) < n := by omega
  go_enter Try.func15, Try.ntmps15
  go_wp2_with fail
  have hr : Row ((w.alloc (.cells #[.slice (some ⟨w.heap.size + 1, 0, none⟩) n n, .int .i64 0] 47)).alloc (.cells (zerosC n) 78)) 78 (w.heap.size + 1) n (List.replicate n Pl.no) := by
    have := Row.zeros (w := w.alloc (.cells #[.slice (some ⟨w.heap.size + 1, 0, none⟩) n n, .int .i64 0] 47)) (e := 78) (n := n) (by unfold maxLen; omega)
    simpa using this
  refine post_seen (fun W => Below w.heap.size w W ∧ Row W 78 (w.heap.size + 1) n (List.replicate n Pl.no) ∧ W.heap[w.heap.size]? = some (.cells #[.slice (some ⟨w.heap.size + 1, 0, none⟩) n n, .int .i64 0] 47 (0, 0))) ⟨((Below.refl _ _).alloc (Nat.le_refl _) _).alloc (by simp) _, hr, heap_alloc (heap_new rfl) _⟩ ?_
  rintro W ⟨hb, hR, hB⟩
  have r0 : W.cell? ⟨w.heap.size, 0, none⟩ = some (.slice (some ⟨w.heap.size + 1, 0, none⟩) n n) := cell_of hB 0
  have r1 : W.cell? ⟨w.heap.size, 1, none⟩ = some (.int .i64 0) := cell_of hB 1
  exact bodyPost_ret (v := .tuple #[.agg #[.slice (some ⟨w.heap.size + 1, 0, none⟩) n n, .int .i64 0], .int .i64 0]) (by simp [results, Try.results15, go_sem, r0, r1]) rfl ⟨w.heap.size + 1, n, by simp, hb, hR⟩
theorem rnew_no (n : Int) (h : n < 1 ∨ 1024 < n) (w : World) : Calls Try.prog 15 #[.int .i64 n] w fun e w' => e = .returned (.tuple #[.agg #[.slice none 0 0, .int .i64 0], .int .i64 2]) ∧ Below w.heap.size w w' := by
  go_enter Try.func15, Try.ntmps15
  go_wp2_with fail
  all_goals first | omega | skip
  all_goals refine post_seen (fun W => Below w.heap.size w W ∧ W.heap[w.heap.size]? = some (.cells #[.slice none 0 0, .int .i64 0] 47 (0, 0))) ⟨(Below.refl _ _).alloc (Nat.le_refl _) _, heap_new rfl⟩ ?_
  all_goals rintro W ⟨hb, hB⟩
  all_goals have r0 : W.cell? ⟨w.heap.size, 0, none⟩ = some (.slice none 0 0) := cell_of hB 0
  all_goals have r1 : W.cell? ⟨w.heap.size, 1, none⟩ = some (.int .i64 0) := cell_of hB 1
  all_goals exact bodyPost_ret (v := .tuple #[.agg #[.slice none 0 0, .int .i64 0], .int .i64 2]) (by simp [results, Try.results15, go_sem, r0, r1]) rfl ⟨rfl, hb⟩
/-- The place of a key, or -1. -/
def atI (R : List Pl) (k : Int) : Int := match atR R k with | some i => ((i : Nat) : Int) | none => -1
theorem add_at (g j : Nat) : (⟨g, 0, none⟩ : Addr).add j = ⟨g, j, none⟩ := by unfold Addr.add; split <;> simp_all
theorem at_ref {a cap h : Nat} {R : List Pl} {w : World} (k : Int) (s : Row w 78 a cap R) (hl : R.length ≤ 1024) :
    Calls Try.prog 31 #[.agg #[.slice (some ⟨a, 0, none⟩) R.length cap, .int .i64 (h : Nat)], .int .u32 k] w fun e w' => e = .returned (.int .i64 (atI R k)) ∧ w' = w.alloc (.cells #[.slice (some ⟨a, 0, none⟩) R.length cap, .int .i64 (h : Nat)] 47) := by
  go_enter Try.func31, Try.ntmps31
  go_wp2_with fail
  go_loopw [5] (fun x wr => ∃ j : Nat, j ≤ R.length ∧ x = .int .i64 (j : Nat) ∧ wr = w.alloc (.cells #[.slice (some ⟨a, 0, none⟩) R.length cap, .int .i64 (h : Nat)] 47) ∧ ∀ i y, i < j → R[i]? = some y → ¬ (y.full = true ∧ y.key = k)) (fun x _ => R.length + 1 - (intOf x).toNat)
  case atStart => exact ⟨0, by omega, rfl, rfl, fun i y hi => by omega⟩
  case round =>
    obtain ⟨j, hj, rfl, rfl, ha⟩ := hrel
    by_cases hlt : j < R.length
    · have hx : R[j]? = some R[j] := List.getElem?_eq_getElem hlt
      have s' := s.alloc (.cells #[.slice (some ⟨a, 0, none⟩) R.length cap, .int .i64 (h : Nat)] 47)
      have f0 := s'.cell hx 0 (by omega)
      have f1 := s'.cell hx 1 (by omega)
      simp only [plC, Nat.add_zero, List.getElem?_cons_zero, List.getElem?_cons_succ] at f0 f1
      have e1 : wrap64 ((j : Int) + 1) = (j : Int) + 1 := wrap_in (by omega)
      have step : ¬ (R[j].full = true ∧ R[j].key = k) → ∀ i y, i < j + 1 → R[i]? = some y → ¬ (y.full = true ∧ y.key = k) := by
        intro hn i y hi hy
        by_cases hij : i < j
        · exact ha i y hij hy
        · obtain rfl : i = j := by omega
          rw [hx] at hy
          obtain rfl : R[i] = y := by simpa using hy
          exact hn
      have found : (R[j].full = true ∧ R[j].key = k) → atR R k = some j := by
        intro hn
        unfold atR
        rw [List.findIdx?_eq_some_iff_getElem]
        refine ⟨hlt, by simpa using hn, fun i hi => ?_⟩
        have := ha i R[i] hi (List.getElem?_eq_getElem (by omega))
        simpa using this
      generalize hX : R[j] = X at *
      cases hfu : X.full with
      | false =>
        rw [hfu] at f1
        go_wp2_with fail
        go_roundw
        case rel => exact ⟨j + 1, by omega, by go_num, trivial, step (by rw [hfu]; simp)⟩
        all_goals (simp [intOf]; omega)
      | true =>
        rw [hfu] at f1
        by_cases hk : X.key = k
        · have hat := found ⟨hfu, hk⟩
          rw [hk] at f0
          go_wp2_with fail
          go_ret
          exact ⟨ret_i64 (by unfold atI; rw [hat]), rfl⟩
        · go_wp2_with fail
          go_roundw
          case rel => exact ⟨j + 1, by omega, by go_num, trivial, step (fun q => hk q.2)⟩
          all_goals (simp [intOf]; omega)
    · have hat : atR R k = none := by
        unfold atR
        rw [List.findIdx?_eq_none_iff]
        intro x hx
        obtain ⟨i, hi, rfl⟩ := List.mem_iff_getElem.1 hx
        have := ha i R[i] (by omega) (List.getElem?_eq_getElem hi)
        simpa using this
      go_wp2_with fail
      go_ret
      exact ⟨ret_i64 (by unfold atI; rw [hat]), rfl⟩
theorem same_true {B B' n : Nat} {v1 v2 : Value} {zs : List Int} {w : World} (h1 : w.ownsRow B 29 1 v1 n (zs.map (Value.int .u32))) (h2 : w.ownsRow B' 29 1 v2 n (zs.map (Value.int .u32))) (hn : n ≤ 100000) :
    Calls Try.prog 29 #[v1, v2] w fun e w' => e = .returned (.bool true) ∧ Below w.heap.size w w' := by
  obtain ⟨A1, c1, rfl⟩ := own_shape h1
  obtain ⟨A2, c2, rfl⟩ := own_shape h2
  have hz : zs.length = n := by have := h1.1; simpa using this
  go_enter Try.func29, Try.ntmps29
  go_wp2_with fail
  go_loopw [5] (fun x wr => ∃ j : Nat, j ≤ n ∧ x = .int .i64 (j : Nat) ∧ Below w.heap.size w wr) (fun x _ => n + 1 - (intOf x).toNat)
  case atStart => exact ⟨0, by omega, rfl, Below.refl _ _⟩
  case round =>
    obtain ⟨j, hj, rfl, hb⟩ := hrel
    by_cases hlt : j < n
    · obtain ⟨g1, q1, he1, _, hg1⟩ := h1.form (by omega)
      obtain ⟨g2, q2, he2, _, hg2⟩ := h2.form (by omega)
      obtain ⟨rfl, rfl⟩ : A1 = some ⟨g1, 0, none⟩ ∧ c1 = q1 := by simpa using he1
      obtain ⟨rfl, rfl⟩ : A2 = some ⟨g2, 0, none⟩ ∧ c2 = q2 := by simpa using he2
      have hu : (zs.map (Value.int .u32))[j]? = some (.int .u32 (zs[j]'(by omega))) := by simp [hz, hlt]
      have k1 := h1.cells (g := g1) rfl j _ hu
      have k2 := h2.cells (g := g2) rfl j _ hu
      have f1 : wr.cell? ⟨g1, j, none⟩ = some (.int .u32 (zs[j]'(by omega))) := (hb.cell (p := ⟨g1, j, none⟩) hg1).trans (by rw [add_at] at k1; exact k1)
      have f2 : wr.cell? ⟨g2, j, none⟩ = some (.int .u32 (zs[j]'(by omega))) := (hb.cell (p := ⟨g2, j, none⟩) hg2).trans (by rw [add_at] at k2; exact k2)
      have e1 : wrap64 ((j : Int) + 1) = (j : Int) + 1 := wrap_in (by omega)
      generalize zs[j]'(by omega) = z at f1 f2
      clear k1 k2 hu
      go_wp2_with fail
      go_quiet (fail)
      all_goals go_wp2_with fail
      all_goals go_roundw
      all_goals first
        | (case rel => exact ⟨j + 1, by omega, by go_num, below_drewN hb _⟩)
        | skip
      all_goals (simp [intOf]; omega)
    · go_wp2_with fail
      go_ret
      exact ⟨rfl, hb⟩
theorem marks_true {B B' n : Nat} {v1 v2 : Value} {zs : List Bool} {w : World} (h1 : w.ownsRow B 4 1 v1 n (zs.map Value.bool)) (h2 : w.ownsRow B' 4 1 v2 n (zs.map Value.bool)) (hn : n ≤ 100000) :
    Calls Try.prog 30 #[v1, v2] w fun e w' => e = .returned (.bool true) ∧ Below w.heap.size w w' := by
  obtain ⟨A1, c1, rfl⟩ := own_shape h1
  obtain ⟨A2, c2, rfl⟩ := own_shape h2
  have hz : zs.length = n := by have := h1.1; simpa using this
  go_enter Try.func30, Try.ntmps30
  go_wp2_with fail
  go_loopw [5] (fun x wr => ∃ j : Nat, j ≤ n ∧ x = .int .i64 (j : Nat) ∧ Below w.heap.size w wr) (fun x _ => n + 1 - (intOf x).toNat)
  case atStart => exact ⟨0, by omega, rfl, Below.refl _ _⟩
  case round =>
    obtain ⟨j, hj, rfl, hb⟩ := hrel
    by_cases hlt : j < n
    · obtain ⟨g1, q1, he1, _, hg1⟩ := h1.form (by omega)
      obtain ⟨g2, q2, he2, _, hg2⟩ := h2.form (by omega)
      obtain ⟨rfl, rfl⟩ : A1 = some ⟨g1, 0, none⟩ ∧ c1 = q1 := by simpa using he1
      obtain ⟨rfl, rfl⟩ : A2 = some ⟨g2, 0, none⟩ ∧ c2 = q2 := by simpa using he2
      have hu : (zs.map Value.bool)[j]? = some (.bool (zs[j]'(by omega))) := by simp [hz, hlt]
      have k1 := h1.cells (g := g1) rfl j _ hu
      have k2 := h2.cells (g := g2) rfl j _ hu
      have f1 : wr.cell? ⟨g1, j, none⟩ = some (.bool (zs[j]'(by omega))) := (hb.cell (p := ⟨g1, j, none⟩) hg1).trans (by rw [add_at] at k1; exact k1)
      have f2 : wr.cell? ⟨g2, j, none⟩ = some (.bool (zs[j]'(by omega))) := (hb.cell (p := ⟨g2, j, none⟩) hg2).trans (by rw [add_at] at k2; exact k2)
      have e1 : wrap64 ((j : Int) + 1) = (j : Int) + 1 := wrap_in (by omega)
      generalize zs[j]'(by omega) = z at f1 f2
      clear k1 k2 hu
      go_wp2_with fail
      go_quiet (fail)
      all_goals go_wp2_with fail
      all_goals go_roundw
      all_goals first
        | (case rel => exact ⟨j + 1, by omega, by go_num, below_drewN hb _⟩)
        | skip
      all_goals (simp [intOf]; omega)
    · go_wp2_with fail
      go_ret
      exact ⟨rfl, hb⟩
end Go.Proofs.Ytbjhpefnonnkmaa
