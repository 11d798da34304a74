/-
  The contracts of second.New, Drop and Use.
-/
import Derived.Test.YtbjhpefnonnkmaaB
import Derived.Laws.MakeOwn
namespace Go.Proofs.Ytbjhpefnonnkmaa
open Go.ChangeShapes Go.WideShapes Go.ChangeAt Go.RowKit
set_option linter.unusedVariables false

theorem info63 : (Try.prog.info? 63).map (fun i => (i.zero, i.size, i.bytes)) = some (some (.agg #[.int .u32 0, .bool false, .bool false]), 3, 8) := by kernel_rfl
/-- The cells of free places. -/
def zerosC (n : Nat) : Array Value := madeCells #[.int .u32 0, .bool false, .bool false] (n * 3)
theorem zerosC_toList (n : Nat) : (zerosC n).toList = ringL (List.replicate n Pl.no) := by
  apply List.ext_getElem?
  intro j
  by_cases hj : j < n * 3
  · have h1 : (List.replicate n Pl.no)[j / 3]? = some Pl.no := by
      rw [List.getElem?_replicate_of_lt (by omega)]
    have h2 := ringL_get h1 (j % 3) (Nat.mod_lt _ (by omega))
    rw [show j / 3 * 3 + j % 3 = j by omega] at h2
    rw [h2]
    unfold zerosC madeCells
    have : j % 3 = 0 ∨ j % 3 = 1 ∨ j % 3 = 2 := by omega
    rcases this with h | h | h <;> simp [hj, h, plC, Pl.no]
  · rw [List.getElem?_eq_none (by simp [zerosC, madeCells]; omega), List.getElem?_eq_none (by rw [ringL_length]; simp; omega)]
theorem Row.zeros {w : World} {e : TypeId} {n : Nat} (hn : n ≤ maxLen) : Row (w.alloc (.cells (zerosC n) e)) e w.heap.size n (List.replicate n Pl.no) :=
  ⟨zerosC n, heap_new rfl, by simp, hn, by simp [zerosC, madeCells], by rw [zerosC_toList, List.length_replicate]; exact List.take_of_length_le (by rw [ringL_length]; simp)⟩
theorem make_places (n : Nat) (hn : n ≤ 1024) (w : World) : (Instr.makeSlice 54 (.int .i64 (n : Nat)) (.int .i64 (n : Nat))).run Try.prog w = .ok (.slice (some ⟨w.heap.size, 0, none⟩) n n) (w.alloc (.cells (zerosC n) 63)) := by
  obtain ⟨i, hi, h1, h2, h3⟩ := info_parts info63
  have := run_make (P := Try.prog) w 54 63 i _ Try.underlying54 hi h1 .i64 .i64 (n : Nat) (n : Nat) (by omega) (by omega) (by rw [h3]; omega) (by omega)
  rw [this, h2]
  simp [zerosC, Value.cells]
theorem make_map (w : World) : (Instr.makeMap 55 none).run Try.prog w = .ok (.map (some w.heap.size)) (w.alloc (.map #[] 0)) := by
  simp [Instr.makeMap, Result.andThen, go_sem]
/-- A cache was made. -/
def MadeSec (w : World) (n : Nat) (e : Ending) (w' : World) : Prop :=
  ∃ p r cap m, e = .returned (.tuple #[.pointer (some ⟨p, 0, none⟩), .int .i64 0]) ∧ Below w.heap.size w w' ∧ w.heap.size ≤ p ∧ w.heap.size ≤ r ∧ w.heap.size ≤ m ∧ IsSec w' p r cap m (List.replicate n Pl.no) 0 []
theorem new_ok (n : Nat) (h1 : 1 ≤ n) (h2 : n ≤ 1024) (w : World) : Calls Try.prog 9 #[.int .i64 (n : Nat)] w fun e w' => MadeSec w n e w' := by
  have hmk := make_places n h2
  have hmm := make_map
  have i1 : ¬ (n : Int) < 1 := by omega
  have i2 : ¬ (1024 : Int) < n := by omega
  go_enter Try.func9, Try.ntmps9
  go_wp2_with fail
  go_ret2
  have hr : Row (((w.alloc (.cells (zerosC n) 63)).alloc (.map #[] 0)).alloc (.cells #[.slice (some ⟨w.heap.size, 0, none⟩) n n, .int .i64 0, .map (some (w.heap.size + 1))] 57)) 63 w.heap.size n (List.replicate n Pl.no) :=
    ((Row.zeros (by unfold maxLen; omega)).alloc _).alloc _
  refine ⟨w.heap.size + 1 + 1, w.heap.size, n, w.heap.size + 1, rfl, ?_, by omega, by omega, by omega, ?_⟩
  · exact (((Below.refl _ _).alloc (Nat.le_refl _) _).alloc (by simp) _).alloc (by simp <;> omega) _
  · refine ⟨?_, hr, ?_, by omega, by omega, by omega⟩
    · rw [List.length_replicate]; exact heap_new (by simp)
    · have : Mp ((w.alloc (.cells (zerosC n) 63)).alloc (.map #[] 0)) (w.alloc (.cells (zerosC n) 63)).heap.size [] := Mp.new
      rw [show (w.alloc (.cells (zerosC n) 63)).heap.size = w.heap.size + 1 by simp] at this
      exact this.alloc _
theorem new_no (n : Int) (h : n < 1 ∨ 1024 < n) (w : World) : Calls Try.prog 9 #[.int .i64 n] w fun e w' => e = .returned (.tuple #[.pointer none, .int .i64 2]) ∧ w = w' := by
  go_enter Try.func9, Try.ntmps9
  go_wp2_with fail
  all_goals first | omega | skip
  all_goals go_ret2
  all_goals exact ⟨rfl, rfl⟩
theorem MapOk.new (n : Nat) : MapOk (List.replicate n Pl.no) [] := by
  have : ∀ n s, canon (List.replicate n Pl.no) s = [] := by
    intro n
    induction n with
    | zero => intro s; rfl
    | succ n ih => intro s; show piece Pl.no s ++ canon (List.replicate n Pl.no) (s + 1) = []; rw [ih]; rfl
  refine ⟨?_, ?_⟩
  · unfold Apart; rw [this]; simp
  · rw [this]

/-- What a drop leaves. -/
def Dropped (w : World) (p r cap m : Nat) (R : List Pl) (h : Nat) (k : Int) (e : Ending) (w' : World) : Prop :=
  e = .returned (.tuple #[.bool (atR R k).isSome, .int .i64 0]) ∧ Keeps [r, m] w w' ∧ ∃ L', IsSec w' p r cap m (dropR R k) h L' ∧ MapOk (dropR R k) L'
theorem drop_is {p r cap m : Nat} {R : List Pl} {h : Nat} {L : List (Int × Int)} {w : World} (k : Int) (s : IsSec w p r cap m R h L) (hM : MapOk R L) (hl : R.length ≤ 1024) :
    Calls Try.prog 12 #[.pointer (some ⟨p, 0, none⟩), .int .u32 k] w fun e w' => Dropped w p r cap m R h k e w' := by
  have c2 : w.cell? ⟨p, 2, none⟩ = some (.map (some m)) := cell_of s.obj 2
  have hlk := s.mp.look k
  cases hk : atR R k with
  | none =>
    rw [(hM.look k).2 hk] at hlk
    go_enter Try.func12, Try.ntmps12
    go_wp2_with (first | (go_at_call 23; refine (zero_is s).mono ?_; rintro e w' ⟨rfl, rfl⟩))
    go_ret2
    refine ⟨by rw [hk]; rfl, Keeps.refl _ _, L, ?_⟩
    unfold dropR; rw [hk]; exact ⟨s, hM⟩
  | some i =>
    obtain ⟨j, hj⟩ := (hM.look k).1 i hk
    rw [hj] at hlk
    obtain ⟨x, hx, hf, _⟩ := atR_some hk
    have hi := (List.getElem?_eq_some_iff.1 hx).1
    have c0 : w.cell? ⟨p, 0, none⟩ = some (.slice (some ⟨r, 0, none⟩) R.length cap) := cell_of s.obj 0
    have f0 : w.cell? ⟨r, i * 3, none⟩ = some (.int .u32 x.key) := s.row.cell hx 0 (by omega)
    have f1 : w.cell? ⟨r, i * 3 + 1, none⟩ = some (.bool x.full) := s.row.cell hx 1 (by omega)
    have f2 : w.cell? ⟨r, i * 3 + 2, none⟩ = some (.bool x.mark) := s.row.cell hx 2 (by omega)
    have g0 : w.frozen? ⟨r, i * 3, none⟩ = false := s.row.frozen _
    have g1 : w.frozen? ⟨r, i * 3 + 1, none⟩ = false := s.row.frozen _
    have g2 : w.frozen? ⟨r, i * 3 + 2, none⟩ = false := s.row.frozen _
    have lo : ¬ ((i : Nat) : Int) < 0 := by omega
    have hi' : ((i : Nat) : Int) < (R.length : Int) := by omega
    have hd : Dropped w p r cap m R h k = fun e w' => e = .returned (.tuple #[.bool true, .int .i64 0]) ∧ Keeps [r, m] w w' ∧ ∃ L', IsSec w' p r cap m (R.set i Pl.no) h L' ∧ MapOk (R.set i Pl.no) L' := by
      unfold Dropped dropR; rw [hk]; rfl
    rw [hd]
    have hM' := hM.del hk
    clear hk hd
    go_enter Try.func12, Try.ntmps12
    go_upto_region 6 with (first | (go_at_call 23; refine (zero_is s).mono ?_; rintro e w' ⟨rfl, rfl⟩))
    refine wp_seen (fun W => Keeps [r] w W ∧ IsSec W p r cap m (R.set i Pl.no) h L) ⟨(((Keeps.refl _ _).setCell (.inl (by simp)) _).setCell (.inl (by simp)) _).setCell (.inl (by simp)) _, s.setPlace hi Pl.no⟩ ?_
    rintro W ⟨kW, sW⟩
    clear f0 f1 f2 g0 g1 g2 c0 lo hi' c2 hlk
    have c2 : W.cell? ⟨p, 2, none⟩ = some (.map (some m)) := cell_of sW.obj 2
    obtain ⟨W2, hr, hm2, k2⟩ := sW.mp.del k
    have sW2 : IsSec W2 p r cap m (R.set i Pl.no) h (delL k L) := ⟨k2.at sW.obj (by simp [sW.pm]), sW.row.keep k2 (by simp [sW.rm]), hm2, sW.pr, sW.pm, sW.rm⟩
    go_wp2_with fail
    go_ret2
    exact ⟨rfl, (kW.weak (by simp)).trans k2 (by simp), _, sW2, hM'⟩
end Go.Proofs.Ytbjhpefnonnkmaa
