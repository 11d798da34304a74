/-
  A second-chance cache in a world, and the contracts of its small methods.
-/
import Derived.Test.YtbjhpefnonnkmaaL
namespace Go.Proofs.Ytbjhpefnonnkmaa
open Go.ChangeShapes Go.WideShapes Go.ChangeAt Go.RowKit
set_option linter.unusedVariables false

/-- A cache lies in a world. -/
structure IsSec (w : World) (p r cap m : Nat) (R : List Pl) (h : Nat) (L : List (Int × Int)) : Prop where
  obj : w.heap[p]? = some (.cells #[.slice (some ⟨r, 0, none⟩) R.length cap, .int .i64 (h : Nat), .map (some m)] 57 (0, 0))
  row : Row w 63 r cap R
  mp : Mp w m L
  pr : p ≠ r
  pm : p ≠ m
  rm : r ≠ m
theorem IsSec.keep {w w' : World} {p r cap m : Nat} {R : List Pl} {h : Nat} {L : List (Int × Int)} {S : List Nat} (s : IsSec w p r cap m R h L) (k : Keeps S w w') (hp : p ∉ S) (hr : r ∉ S) (hm : m ∉ S) : IsSec w' p r cap m R h L :=
  ⟨k.at s.obj hp, s.row.keep k hr, s.mp.keep k hm, s.pr, s.pm, s.rm⟩
theorem IsSec.below {w w' : World} {p r cap m : Nat} {R : List Pl} {h : Nat} {L : List (Int × Int)} (s : IsSec w p r cap m R h L) (k : Below w.heap.size w w') : IsSec w' p r cap m R h L :=
  s.keep (S := []) (Keeps.of_below k) (by simp) (by simp) (by simp)
theorem run_equalIn_map_nil {P : Program} (w : World) (d : Nat) (t k e : TypeId) (p : Option Nat) (h : P.underlying t = some (.map k e)) :
    (Op.equalIn (d + 1) t (.map p) (.map none)).run P w = .ok p.isNone w := by
  cases p <;> simp [Op.equalIn, run_underlying h]
theorem run_eql_map_nil (w : World) (p : Option Nat) : (binOp .eql 55 (.map p) (.map none)).run Try.prog w = .ok (.bool p.isNone) w := by
  simp only [binOp]
  simp [show Op.equal 55 (.map p) (.map none) = Op.equalIn (9999 + 1) 55 (.map p) (.map none) from rfl, run_equalIn_map_nil w 9999 55 29 3 p Try.underlying55]

theorem zero_nil (w : World) : Calls Try.prog 23 #[.pointer none] w fun e w' => e = .returned (.bool true) ∧ w = w' := by
  go_enter Try.func23, Try.ntmps23
  go_wp2_with fail
  go_ret
  exact ⟨rfl, rfl⟩
theorem zero_any (p : Nat) (x y : Value) (mo : Option Nat) (w : World) (h : w.heap[p]? = some (.cells #[x, y, .map mo] 57 (0, 0))) :
    Calls Try.prog 23 #[.pointer (some ⟨p, 0, none⟩)] w fun e w' => e = .returned (.bool mo.isNone) ∧ w = w' := by
  have c2 : w.cell? ⟨p, 2, none⟩ = some (.map mo) := cell_of h 2
  have hq := run_eql_map_nil w mo
  go_enter Try.func23, Try.ntmps23
  go_wp2_with fail
  go_ret
  exact ⟨rfl, rfl⟩
theorem zero_is {p r cap m : Nat} {R : List Pl} {h : Nat} {L : List (Int × Int)} {w : World} (s : IsSec w p r cap m R h L) :
    Calls Try.prog 23 #[.pointer (some ⟨p, 0, none⟩)] w fun e w' => e = .returned (.bool false) ∧ w = w' := zero_any p _ _ (some m) w s.obj
theorem zero_zero (p : Nat) (w : World) (h : w.heap[p]? = some (.cells #[.slice none 0 0, .int .i64 0, .map none] 57 (0, 0))) :
    Calls Try.prog 23 #[.pointer (some ⟨p, 0, none⟩)] w fun e w' => e = .returned (.bool true) ∧ w = w' := zero_any p _ _ none w h

theorem len_is {p r cap m : Nat} {R : List Pl} {h : Nat} {L : List (Int × Int)} {w : World} (s : IsSec w p r cap m R h L) :
    Calls Try.prog 13 #[.pointer (some ⟨p, 0, none⟩)] w fun e w' => e = .returned (.int .i64 (L.length : Nat)) ∧ w = w' := by
  have c2 : w.cell? ⟨p, 2, none⟩ = some (.map (some m)) := cell_of s.obj 2
  have hl := s.mp.len
  go_enter Try.func13, Try.ntmps13
  go_wp2_with (first | (go_at_call 23; refine (zero_is s).mono ?_; rintro e w' ⟨rfl, rfl⟩))
  go_ret
  exact ⟨rfl, rfl⟩
theorem size_is {p r cap m : Nat} {R : List Pl} {h : Nat} {L : List (Int × Int)} {w : World} (s : IsSec w p r cap m R h L) :
    Calls Try.prog 18 #[.pointer (some ⟨p, 0, none⟩)] w fun e w' => e = .returned (.int .i64 (R.length : Nat)) ∧ w = w' := by
  have c0 : w.cell? ⟨p, 0, none⟩ = some (.slice (some ⟨r, 0, none⟩) R.length cap) := cell_of s.obj 0
  go_enter Try.func18, Try.ntmps18
  go_wp2_with (first | (go_at_call 23; refine (zero_is s).mono ?_; rintro e w' ⟨rfl, rfl⟩))
  go_ret
  exact ⟨rfl, rfl⟩
theorem hand_is {p r cap m : Nat} {R : List Pl} {h : Nat} {L : List (Int × Int)} {w : World} (s : IsSec w p r cap m R h L) :
    Calls Try.prog 19 #[.pointer (some ⟨p, 0, none⟩)] w fun e w' => e = .returned (.int .i64 (h : Nat)) ∧ w = w' := by
  have c1 : w.cell? ⟨p, 1, none⟩ = some (.int .i64 (h : Nat)) := cell_of s.obj 1
  go_enter Try.func19, Try.ntmps19
  go_wp2_with (first | (go_at_call 23; refine (zero_is s).mono ?_; rintro e w' ⟨rfl, rfl⟩))
  go_ret
  exact ⟨rfl, rfl⟩
theorem has_is {p r cap m : Nat} {R : List Pl} {h : Nat} {L : List (Int × Int)} {w : World} (k : Int) (s : IsSec w p r cap m R h L) :
    Calls Try.prog 14 #[.pointer (some ⟨p, 0, none⟩), .int .u32 k] w fun e w' => e = .returned (.bool (lookL k L 0).isSome) ∧ w = w' := by
  have c2 : w.cell? ⟨p, 2, none⟩ = some (.map (some m)) := cell_of s.obj 2
  have hl := s.mp.look k
  go_enter Try.func14, Try.ntmps14
  cases hk : lookL k L 0 with
  | none =>
    rw [hk] at hl
    go_wp2_with (first | (go_at_call 23; refine (zero_is s).mono ?_; rintro e w' ⟨rfl, rfl⟩))
    go_ret
    exact ⟨rfl, rfl⟩
  | some q =>
    rw [hk] at hl
    go_wp2_with (first | (go_at_call 23; refine (zero_is s).mono ?_; rintro e w' ⟨rfl, rfl⟩))
    go_ret
    exact ⟨rfl, rfl⟩
theorem mod_num {a n : Nat} (hn : 0 < n) (hm : n ≤ 1024) (ha : a < n) : ((a : Int) + 1) % (n : Int) = (((a + 1) % n : Nat) : Int) := by norm_cast
theorem IsSec.setHand {p r cap m : Nat} {R : List Pl} {h : Nat} {L : List (Int × Int)} {w : World} (s : IsSec w p r cap m R h L) (h' : Nat) : IsSec (w.setCell ⟨p, 1, none⟩ (.int .i64 (h' : Nat))) p r cap m R h' L :=
  ⟨heap_set s.obj _, s.row.other (Ne.symm s.pr) _, s.mp.other (Ne.symm s.pm) _, s.pr, s.pm, s.rm⟩
theorem IsSec.drew {p r cap m : Nat} {R : List Pl} {h : Nat} {L : List (Int × Int)} {w : World} (s : IsSec w p r cap m R h L) : IsSec w.drew p r cap m R h L := ⟨s.obj, s.row, s.mp, s.pr, s.pm, s.rm⟩
theorem IsSec.setPlace {p r cap m : Nat} {R : List Pl} {h i : Nat} {L : List (Int × Int)} {w : World} (s : IsSec w p r cap m R h L) (hi : i < R.length) (x : Pl) :
    IsSec (((w.setCell ⟨r, i * 3, none⟩ (.int .u32 x.key)).setCell ⟨r, i * 3 + 1, none⟩ (.bool x.full)).setCell ⟨r, i * 3 + 2, none⟩ (.bool x.mark)) p r cap m (R.set i x) h L :=
  ⟨by rw [List.length_set]; exact heap_other (heap_other (heap_other s.obj s.pr _) s.pr _) s.pr _, s.row.set hi x, ((s.mp.other (Ne.symm s.rm) _).other (Ne.symm s.rm) _).other (Ne.symm s.rm) _, s.pr, s.pm, s.rm⟩
theorem IsSec.setMark {p r cap m : Nat} {R : List Pl} {h i : Nat} {L : List (Int × Int)} {w : World} (s : IsSec w p r cap m R h L) {x : Pl} (hx : R[i]? = some x) (b : Bool) :
    IsSec (w.setCell ⟨r, i * 3 + 2, none⟩ (.bool b)) p r cap m (R.set i ⟨x.key, x.full, b⟩) h L :=
  ⟨by rw [List.length_set]; exact heap_other s.obj s.pr _, s.row.setMark hx b, s.mp.other (Ne.symm s.rm) _, s.pr, s.pm, s.rm⟩
theorem next_is {p r cap m : Nat} {R : List Pl} {h n : Nat} {L : List (Int × Int)} {w : World} (s : IsSec w p r cap m R h L) (hn : R.length = n) (hh : h < n) (hm : n ≤ 1024) :
    Calls Try.prog 27 #[.pointer (some ⟨p, 0, none⟩)] w fun e w' => e = .returned (.tuple #[]) ∧ Keeps [p] w w' ∧ IsSec w' p r cap m R ((h + 1) % n) L := by
  subst hn
  have c0 : w.cell? ⟨p, 0, none⟩ = some (.slice (some ⟨r, 0, none⟩) R.length cap) := cell_of s.obj 0
  have c1 : w.cell? ⟨p, 1, none⟩ = some (.int .i64 (h : Nat)) := cell_of s.obj 1
  have g1 : w.frozen? ⟨p, 1, none⟩ = false := frozen_of s.obj 1
  have e1 : wrap64 ((h : Int) + 1) = (h : Int) + 1 := wrap_in (by omega)
  have hz : ¬ (R.length : Int) = 0 := by omega
  have s' := s.setHand ((h + 1) % R.length)
  rw [← mod_num (by omega) hm hh] at s'
  go_enter Try.func27, Try.ntmps27
  go_wp2_with fail
  go_region
  all_goals go_wp2_with fail
  all_goals go_end0
  all_goals exact ⟨rfl, ((Keeps.refl _ _).setCell (.inl (by simp)) _).drew, s'.drew⟩

theorem put_is {p r cap m : Nat} {R : List Pl} {h i : Nat} {L : List (Int × Int)} {w : World} (k : Int) (s : IsSec w p r cap m R h L) (hi : i < R.length) (hl : R.length ≤ 1024) (hk : lookL k L 0 = none) :
    Calls Try.prog 24 #[.pointer (some ⟨p, 0, none⟩), .int .i64 (i : Nat), .int .u32 k] w fun e w' => e = .returned (.tuple #[]) ∧ Keeps [r, m] w w' ∧ IsSec w' p r cap m (R.set i ⟨k, true, false⟩) h (L ++ [(k, (i : Int))]) := by
  have c0 : w.cell? ⟨p, 0, none⟩ = some (.slice (some ⟨r, 0, none⟩) R.length cap) := cell_of s.obj 0
  have hx : R[i]? = some R[i] := List.getElem?_eq_getElem hi
  have f0 : w.cell? ⟨r, i * 3, none⟩ = some (.int .u32 R[i].key) := s.row.cell hx 0 (by omega)
  have f1 : w.cell? ⟨r, i * 3 + 1, none⟩ = some (.bool R[i].full) := s.row.cell hx 1 (by omega)
  have f2 : w.cell? ⟨r, i * 3 + 2, none⟩ = some (.bool R[i].mark) := s.row.cell hx 2 (by omega)
  have g0 : w.frozen? ⟨r, i * 3, none⟩ = false := s.row.frozen _
  have g1 : w.frozen? ⟨r, i * 3 + 1, none⟩ = false := s.row.frozen _
  have g2 : w.frozen? ⟨r, i * 3 + 2, none⟩ = false := s.row.frozen _
  have lo : ¬ ((i : Nat) : Int) < 0 := by omega
  have hi' : ((i : Nat) : Int) < (R.length : Int) := by omega
  go_enter Try.func24, Try.ntmps24
  go_upto_region 1 with fail
  refine wp_seen (fun W => Keeps [r] w W ∧ IsSec W p r cap m (R.set i ⟨k, true, false⟩) h L) ⟨(((Keeps.refl _ _).setCell (.inl (by simp)) _).setCell (.inl (by simp)) _).setCell (.inl (by simp)) _, s.setPlace hi ⟨k, true, false⟩⟩ ?_
  rintro W ⟨kW, sW⟩
  clear f0 f1 f2 g0 g1 g2 c0 lo hi' s
  have c2 : W.cell? ⟨p, 2, none⟩ = some (.map (some m)) := cell_of sW.obj 2
  obtain ⟨W2, hr, hm2, k2⟩ := sW.mp.put k (i : Nat) hk
  have sW2 : IsSec W2 p r cap m (R.set i ⟨k, true, false⟩) h (L ++ [(k, (i : Int))]) := ⟨k2.at sW.obj (by simp [sW.pm]), sW.row.keep k2 (by simp [sW.rm]), hm2, sW.pr, sW.pm, sW.rm⟩
  go_wp2_with fail
  go_end0
  exact ⟨rfl, (kW.weak (by simp)).trans k2 (by simp), sW2⟩

theorem notFull_any (k : Int) (f m : Bool) (w : World) : Calls Try.prog 26 #[.agg #[.int .u32 k, .bool f, .bool m]] w fun e w' => e = .returned (.bool !f) ∧ w' = w.alloc (.cells #[.int .u32 k, .bool f, .bool m] 63) := by
  go_enter Try.func26, Try.ntmps26
  go_wp2_with fail
  go_ret
  exact ⟨rfl, rfl⟩
theorem freeR_lt {R : List Pl} {k : Nat} (hk : k < R.length) (ha : ∀ j x, j < k → R[j]? = some x → x.full = true) (hf : R[k].full = false) : freeR R = some k := by
  unfold freeR
  rw [List.findIdx?_eq_some_iff_getElem]
  refine ⟨hk, by simp [hf], fun j hj => ?_⟩
  have := ha j R[j] hj (List.getElem?_eq_getElem (by omega))
  simp [this]
theorem freeR_no {R : List Pl} (ha : ∀ j x, j < R.length → R[j]? = some x → x.full = true) : freeR R = none := by
  unfold freeR
  rw [List.findIdx?_eq_none_iff]
  intro x hx
  obtain ⟨j, hj, rfl⟩ := List.mem_iff_getElem.1 hx
  have := ha j R[j] hj (List.getElem?_eq_getElem hj)
  simp [this]
theorem indexFunc_is {r cap i : Nat} {R : List Pl} {w : World} (s : Row w 63 r cap R) (hl : R.length ≤ 1024) (hf : freeR R = some i) :
    Calls Try.prog 25 #[.slice (some ⟨r, 0, none⟩) R.length cap, .func (.func 26) #[] #[]] w fun e w' => e = .returned (.int .i64 (i : Nat)) ∧ Below w.heap.size w w' := by
  go_enter Try.func25, Try.ntmps25
  go_wp2_with fail
  go_loopw [8] (fun x wr => ∃ k : Nat, k < R.length ∧ x = .int .i64 (k : Nat) ∧ Below w.heap.size w wr ∧ ∀ j y, j < k → R[j]? = some y → y.full = true) (fun x _ => R.length - (intOf x).toNat)
  case atStart =>
    refine ⟨0, ?_, rfl, Below.refl _ _, fun j y hj => by omega⟩
    obtain ⟨x, hx, _⟩ := freeR_some hf
    have := (List.getElem?_eq_some_iff.1 hx).1
    omega
  case round =>
    obtain ⟨k, hk, rfl, hb, ha⟩ := hrel
    have hx : R[k]? = some R[k] := List.getElem?_eq_getElem hk
    have s' := s.keep (S := []) (Keeps.of_below hb) (by simp)
    have f0 : wr.cell? ⟨r, k * 3, none⟩ = some (.int .u32 R[k].key) := s'.cell hx 0 (by omega)
    have f1 : wr.cell? ⟨r, k * 3 + 1, none⟩ = some (.bool R[k].full) := s'.cell hx 1 (by omega)
    have f2 : wr.cell? ⟨r, k * 3 + 2, none⟩ = some (.bool R[k].mark) := s'.cell hx 2 (by omega)
    have e1 : wrap64 ((k : Int) + 1) = (k : Int) + 1 := wrap_in (by omega)
    cases hfu : R[k].full with
    | false =>
      have hv := freeR_lt hk ha hfu
      rw [hf] at hv
      obtain rfl : i = k := by simpa using hv
      clear hf
      generalize hX : R[i] = X at *
      go_wp2_with (first | (go_at_call 26; refine (notFull_any _ _ _ _).mono ?_; rintro e w' ⟨rfl, rfl⟩))
      go_ret
      exact ⟨rfl, hb.alloc hb.size _⟩
    | true =>
      have hk2 : k + 1 < R.length := by
        obtain ⟨x, hx', hxf⟩ := freeR_some hf
        have hi := (List.getElem?_eq_some_iff.1 hx').1
        apply Decidable.byContradiction
        intro hn
        by_cases hik : i < k
        · rw [ha i x hik hx'] at hxf; cases hxf
        · obtain rfl : i = k := by omega
          rw [hx] at hx'
          obtain rfl : R[i] = x := by simpa using hx'
          rw [hfu] at hxf; cases hxf
      have ha2 : ∀ j y, j < k + 1 → R[j]? = some y → y.full = true := by
        intro j y hj hy
        by_cases hjk : j < k
        · exact ha j y hjk hy
        · obtain rfl : j = k := by omega
          rw [hx] at hy
          obtain rfl : R[j] = y := by simpa using hy
          exact hfu
      generalize hX : R[k] = X at *
      go_wp2_with (first | (go_at_call 26; refine (notFull_any _ _ _ _).mono ?_; rintro e w' ⟨rfl, rfl⟩))
      go_roundw
      case rel => exact ⟨k + 1, hk2, by go_num, hb.alloc hb.size _, ha2⟩
      all_goals (simp [intOf]; omega)
end Go.Proofs.Ytbjhpefnonnkmaa
