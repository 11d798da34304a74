/-
  The plain law of BudgetHolds and BudgetPlays: what a call does to a budget that some calls have made.
-/
import Derived.Test.YtfoccffngdhlfaaI
namespace Go.Proofs.Ytfoccffngdhlfaa
open Go.ChangeShapes Go.WideShapes Go.ChangeAt Go.RowKit
set_option linter.unusedVariables false

/-- A budget after some calls. -/
structure Fair (K : Bud) (k : Nat) : Prop where
  ok : okB K.mc K.mb = true
  c0 : 0 ≤ K.c0
  C0 : K.c0 ≤ k
  b0 : 0 ≤ K.b0
  B0 : K.b0 ≤ k * 1099511627776
  z0 : K.c0 = 0 → K.b0 = 0
  c1 : 0 ≤ K.c1
  C1 : K.c1 ≤ k
  b1 : 0 ≤ K.b1
  B1 : K.b1 ≤ k * 1099511627776
  z1 : K.c1 = 0 → K.b1 = 0
theorem Fair.inv {K : Bud} {k : Nat} (h : Fair K k) (hk : k ≤ 61) : K.Inv := by
  obtain ⟨ok, c0, C0, b0, B0, z0, c1, C1, b1, B1, z1⟩ := h
  exact ⟨ok, c0, by omega, b0, by omega, c1, by omega, b1, by omega⟩
theorem Fair.up {K : Bud} {k : Nat} (h : Fair K k) : Fair K (k + 1) := by
  obtain ⟨ok, c0, C0, b0, B0, z0, c1, C1, b1, B1, z1⟩ := h
  exact ⟨ok, c0, by omega, b0, by omega, z0, c1, by omega, b1, by omega, z1⟩
theorem Fair.new {a b : Int} (h : okB a b = true) : Fair (newB a b) 0 :=
  ⟨h, by show (0 : Int) ≤ 0; omega, by show (0 : Int) ≤ 0; omega, by show (0 : Int) ≤ 0; omega, by show (0 : Int) ≤ 0; omega, fun _ => rfl, by show (0 : Int) ≤ 0; omega, by show (0 : Int) ≤ 0; omega, by show (0 : Int) ≤ 0; omega, by show (0 : Int) ≤ 0; omega, fun _ => rfl⟩
theorem Fair.put0 {K : Bud} {k j : Nat} (h : Fair K k) (hj : k ≤ j) {n b : Int} (q : 0 ≤ n ∧ n ≤ j ∧ 0 ≤ b ∧ b ≤ j * 1099511627776 ∧ (n = 0 → b = 0)) : Fair (K.put 0 n b) j := by
  obtain ⟨ok, c0, C0, b0, B0, z0, c1, C1, b1, B1, z1⟩ := h
  exact ⟨ok, q.1, q.2.1, q.2.2.1, q.2.2.2.1, q.2.2.2.2, c1, by show K.c1 ≤ _; omega, b1, by show K.b1 ≤ _; omega, z1⟩
theorem Fair.put1 {K : Bud} {k j : Nat} (h : Fair K k) (hj : k ≤ j) {n b : Int} (q : 0 ≤ n ∧ n ≤ j ∧ 0 ≤ b ∧ b ≤ j * 1099511627776 ∧ (n = 0 → b = 0)) : Fair (K.put 1 n b) j := by
  obtain ⟨ok, c0, C0, b0, B0, z0, c1, C1, b1, B1, z1⟩ := h
  exact ⟨ok, c0, by show K.c0 ≤ _; omega, b0, by show K.b0 ≤ _; omega, z0, q.1, q.2.1, q.2.2.1, q.2.2.2.1, q.2.2.2.2⟩
theorem Fair.seg {K : Bud} {k : Nat} (h : Fair K k) {g : Int} (hg : g = 0 ∨ g = 1) : 0 ≤ K.cnt g ∧ K.cnt g ≤ k ∧ 0 ≤ K.cost g ∧ K.cost g ≤ k * 1099511627776 ∧ (K.cnt g = 0 → K.cost g = 0) := by
  rcases hg with rfl | rfl
  · exact ⟨h.c0, h.C0, h.b0, h.B0, h.z0⟩
  · exact ⟨h.c1, h.C1, h.b1, h.B1, h.z1⟩
theorem Fair.put {K : Bud} {k j : Nat} (h : Fair K k) (hj : k ≤ j) {g : Int} (hg : g = 0 ∨ g = 1) {n b : Int} (q : 0 ≤ n ∧ n ≤ j ∧ 0 ≤ b ∧ b ≤ j * 1099511627776 ∧ (n = 0 → b = 0)) : Fair (K.put g n b) j := by
  rcases hg with rfl | rfl
  · exact h.put0 hj q
  · exact h.put1 hj q
theorem cnt_put_other {K : Bud} {g n b : Int} (hg : g = 0 ∨ g = 1) : (K.put g n b).cnt (1 - g) = K.cnt (1 - g) ∧ (K.put g n b).cost (1 - g) = K.cost (1 - g) := by
  rcases hg with rfl | rfl <;> exact ⟨rfl, rfl⟩

theorem addR_fair {K : Bud} {k : Nat} (h : Fair K k) (hk : k ≤ 60) (g c : Int) (hf : fairB g c = true) : addR K g c = (0, K.put g (K.cnt g + 1) (K.cost g + c)) ∧ Fair (K.put g (K.cnt g + 1) (K.cost g + c)) (k + 1) := by
  obtain ⟨hg, c0, c1⟩ := fairB_iff.1 hf
  obtain ⟨s0, s1, s2, s3, s4⟩ := h.seg hg
  have hz : fitsB (K.cnt g + 1) (K.cost g + c) = true := fitsB_iff.2 ⟨by omega, by omega⟩
  refine ⟨by unfold addR; rw [if_pos hf, if_pos hz], h.put (by omega) hg ⟨by omega, by omega, by omega, by omega, by omega⟩⟩
theorem addR_any {K : Bud} {k : Nat} (h : Fair K k) (hk : k ≤ 60) (g c : Int) : Fair (addR K g c).2 (k + 1) := by
  by_cases hf : fairB g c = true
  · rw [(addR_fair h hk g c hf).1]; exact (addR_fair h hk g c hf).2
  · unfold addR; rw [if_neg hf]; exact h.up
theorem removeR_any {K : Bud} {k : Nat} (h : Fair K k) (g c : Int) : Fair (removeR K g c).2 (k + 1) := by
  unfold removeR
  by_cases hf : fairB g c = true
  · by_cases hh : hasB (K.cnt g) (K.cost g) c = true
    · rw [if_pos hf, if_pos hh]
      obtain ⟨hg, c0, c1⟩ := fairB_iff.1 hf
      obtain ⟨s0, s1, s2, s3, s4⟩ := h.seg hg
      have := hasB_iff.1 hh
      exact h.put (by omega) hg ⟨by omega, by omega, by omega, by omega, by omega⟩
    · rw [if_pos hf, if_neg hh]; exact h.up
  · rw [if_neg hf]; exact h.up
theorem moveR_any {K : Bud} {k : Nat} (h : Fair K k) (hk : k ≤ 60) (g c : Int) : Fair (moveR K g c).2 (k + 1) ∧ (moveR K g c).2.c0 + (moveR K g c).2.c1 = K.c0 + K.c1 ∧ (moveR K g c).2.b0 + (moveR K g c).2.b1 = K.b0 + K.b1 := by
  unfold moveR
  by_cases hf : fairB g c = true
  · obtain ⟨hg, c0, c1⟩ := fairB_iff.1 hf
    by_cases hz : fitsB (K.cnt (1 - g) + 1) (K.cost (1 - g) + c) = true
    · by_cases hh : hasB (K.cnt g) (K.cost g) c = true
      · rw [if_pos hf, if_pos hz, if_pos hh]
        obtain ⟨s0, s1, s2, s3, s4⟩ := h.seg hg
        obtain ⟨t0, t1, t2, t3, t4⟩ := h.seg (show 1 - g = 0 ∨ 1 - g = 1 by omega)
        have := hasB_iff.1 hh
        refine ⟨(h.put (j := k + 1) (by omega) hg ⟨by omega, by omega, by omega, by omega, by omega⟩).put (Nat.le_refl _) (by omega) ⟨by omega, by omega, by omega, by omega, by omega⟩, ?_⟩
        rcases hg with rfl | rfl
        · exact ⟨by show K.c0 - 1 + (K.c1 + 1) = _; omega, by show K.b0 - c + (K.b1 + c) = _; omega⟩
        · exact ⟨by show K.c0 + 1 + (K.c1 - 1) = _; omega, by show K.b0 + c + (K.b1 - c) = _; omega⟩
      · rw [if_pos hf, if_pos hz, if_neg hh]; exact ⟨h.up, rfl, rfl⟩
    · rw [if_pos hf, if_neg hz]; exact ⟨h.up, rfl, rfl⟩
  · rw [if_neg hf]; exact ⟨h.up, rfl, rfl⟩
theorem changeR_any {K : Bud} {k : Nat} (h : Fair K k) (g a b : Int) : Fair (changeR K g a b).2 (k + 1) := by
  unfold changeR
  by_cases hf : (fairB g a && fairB g b) = true
  · by_cases hz : fitsB (K.cnt g) (K.cost g + (b - a)) = true
    · by_cases hh : hasB (K.cnt g) (K.cost g) a = true
      · rw [if_pos hf, if_pos hz, if_pos hh]
        have hab : fairB g a = true ∧ fairB g b = true := by simpa using hf
        obtain ⟨hg, c0, c1⟩ := fairB_iff.1 hab.1
        obtain ⟨_, c2, c3⟩ := fairB_iff.1 hab.2
        obtain ⟨s0, s1, s2, s3, s4⟩ := h.seg hg
        have := hasB_iff.1 hh
        exact h.put (by omega) hg ⟨by omega, by omega, by omega, by omega, by omega⟩
      · rw [if_pos hf, if_pos hz, if_neg hh]; exact h.up
    · rw [if_pos hf, if_neg hz]; exact h.up
  · rw [if_neg hf]; exact h.up
theorem setR_any {K : Bud} {k : Nat} (h : Fair K k) (c b : Int) : Fair (setR K c b).2 (k + 1) := by
  unfold setR
  by_cases hf : okB c b = true
  · rw [if_pos hf]
    obtain ⟨ok, c0, C0, b0, B0, z0, c1, C1, b1, B1, z1⟩ := h.up
    exact ⟨hf, c0, C0, b0, B0, z0, c1, C1, b1, B1, z1⟩
  · rw [if_neg hf]; exact h.up
/-- After Add and Remove of the same cost everything is as before. -/
theorem removeR_back {K : Bud} {k : Nat} (h : Fair K k) (g c : Int) (hf : fairB g c = true) : removeR (K.put g (K.cnt g + 1) (K.cost g + c)) g c = (0, K) := by
  obtain ⟨hg, c0, c1⟩ := fairB_iff.1 hf
  obtain ⟨s0, s1, s2, s3, s4⟩ := h.seg hg
  unfold removeR
  rcases hg with rfl | rfl
  · have hh : hasB ((K.put 0 (K.cnt 0 + 1) (K.cost 0 + c)).cnt 0) ((K.put 0 (K.cnt 0 + 1) (K.cost 0 + c)).cost 0) c = true := hasB_iff.2 (by show (1 < K.c0 + 1 ∧ c ≤ K.b0 + c) ∨ (K.c0 + 1 = 1 ∧ K.b0 + c = c); have := h.c0; have := h.b0; have := h.z0; omega)
    rw [if_pos hf, if_pos hh]
    show (0, { K with c0 := K.c0 + 1 - 1, b0 := K.b0 + c - c }) = (0, K)
    rw [show K.c0 + 1 - 1 = K.c0 by omega, show K.b0 + c - c = K.b0 by omega]
  · have hh : hasB ((K.put 1 (K.cnt 1 + 1) (K.cost 1 + c)).cnt 1) ((K.put 1 (K.cnt 1 + 1) (K.cost 1 + c)).cost 1) c = true := hasB_iff.2 (by show (1 < K.c1 + 1 ∧ c ≤ K.b1 + c) ∨ (K.c1 + 1 = 1 ∧ K.b1 + c = c); have := h.c1; have := h.b1; have := h.z1; omega)
    rw [if_pos hf, if_pos hh]
    show (0, { K with c1 := K.c1 + 1 - 1, b1 := K.b1 + c - c }) = (0, K)
    rw [show K.c1 + 1 - 1 = K.c1 by omega, show K.b1 + c - c = K.b1 by omega]

/-- What the walk is told of a slice of calls. -/
def IsActs (w : World) (s : Option Addr) (len : Nat) (f : Nat → Nat → Int) : Prop :=
  0 < len → ∃ b off, s = some ⟨b, off, none⟩ ∧ b < w.heap.size ∧ ∀ i, i < len → ∀ j, j < 4 → w.cell? ⟨b, off + (i * 4 + j), none⟩ = some (.int .i64 (f i j))
end Go.Proofs.Ytfoccffngdhlfaa
