/-
  The contracts of Halve and Add.
-/
import Derived.Test.YtffniljefbpoiaaD
namespace Go.Proofs.Ytffniljefbpoiaa
open Go.ChangeShapes Go.WideShapes Go.ChangeAt Go.RowKit
set_option linter.unusedVariables false

theorem index52_at (a b c d : Value) (j : Nat) (hj : j < 4) (w : World) : (Instr.index 52 (.agg #[a, b, c, d]) (.int .i64 (j : Nat))).run Try.prog w = .ok (#[a, b, c, d].getD j undef) w := by
  have : j = 0 ∨ j = 1 ∨ j = 2 ∨ j = 3 := by omega
  rcases this with rfl | rfl | rfl | rfl
  · exact index52_0 a b c d w
  · exact index52_1 a b c d w
  · exact index52_2 a b c d w
  · exact index52_3 a b c d w
theorem index56_at (a b c d : Value) (j : Nat) (hj : j < 4) (w : World) : (Instr.index 56 (.agg #[a, b, c, d]) (.int .i64 (j : Nat))).run Try.prog w = .ok (#[a, b, c, d].getD j undef) w := by
  have : j = 0 ∨ j = 1 ∨ j = 2 ∨ j = 3 := by omega
  rcases this with rfl | rfl | rfl | rfl
  · exact index56_0 a b c d w
  · exact index56_1 a b c d w
  · exact index56_2 a b c d w
  · exact index56_3 a b c d w
/-- Rows before a row are changed, and this row up to a word. -/
structure Hv (w : World) (p : Nat) (G Q : Nat → Nat) (K : Sk) (F : Nat → Nat → Int) (j k : Nat) (W : World) : Prop where
  keeps : Keeps (blocks p G) w W
  obj : W.heap[p]? = some (.cells (skC K G Q) 54 (0, 0))
  rows : ∀ r, r < 4 → Nums W .u64 22 (G r) (K.n / 16) (Q r) (fun i => if r < j ∨ (r = j ∧ i < k) then F r i else wordsF (K.c r) i)
theorem Hv.start {w : World} {p : Nat} {G Q : Nat → Nat} {K : Sk} {F : Nat → Nat → Int} (s : IsSk w p G Q K) : Hv w p G Q K F 0 0 w :=
  ⟨Keeps.refl _ _, s.obj, fun r hr => (s.rows r hr).congr fun i hi => by rw [if_neg (by omega)]⟩
theorem Hv.word {w W : World} {p : Nat} {G Q : Nat → Nat} {K : Sk} {F : Nat → Nat → Int} {j k : Nat} (s : IsSk w p G Q K) (h : Hv w p G Q K F j k W) (hj : j < 4) (x : Int) (hx : F j k = x) : Hv w p G Q K F j (k + 1) (W.setCell ⟨G j, k, none⟩ (.int .u64 x)) := by
  refine ⟨h.keeps.setCell (.inl (mem_blocks.2 (.inr ⟨j, hj, rfl⟩))) _, heap_other h.obj (s.ne hj) _, fun r hr => ?_⟩
  by_cases e : r = j
  · subst e
    refine (h.rows r hr).set k x ?_ ?_
    · rw [if_pos (by omega)]; exact hx
    · intro i hi
      by_cases q : i < k
      · rw [if_pos (by omega), if_pos (by omega)]
      · rw [if_neg (by omega), if_neg (by omega)]
  · refine ((h.rows r hr).other (s.apart r j hr hj e) _).congr fun i hi => ?_
    by_cases q : r < j
    · rw [if_pos (.inl q), if_pos (.inl q)]
    · rw [if_neg (by omega), if_neg (by omega)]
theorem Hv.row {w W : World} {p : Nat} {G Q : Nat → Nat} {K : Sk} {F : Nat → Nat → Int} {j : Nat} (h : Hv w p G Q K F j (K.n / 16) W) : Hv w p G Q K F (j + 1) 0 W :=
  ⟨h.keeps, h.obj, fun r hr => (h.rows r hr).congr fun i hi => by
    by_cases q : r < j ∨ r = j
    · rw [if_pos (by omega), if_pos (by omega)]
    · rw [if_neg (by omega), if_neg (by omega)]⟩
theorem half_law {c : Nat → Nat} (h : Small c) (k : Nat) : bits .and .u64 (wordsF c k / 2) 8608480567731124087 = wordsF (fun i => c i / 2) k := by
  have hl := pack_lt h k
  have hp := pack_half h k
  unfold wordsF
  rw [u64_and _ _ (by omega) (by omega) (by omega) (by omega), ← hp]
  have e1 : (((pack c k : Nat) : Int) / 2).toNat = pack c k / 2 := by omega
  have e2 : (8608480567731124087 : Int).toNat = 8608480567731124087 := by decide
  rw [e1, e2]
set_option maxRecDepth 100000 in
theorem halve_is {w : World} {p : Nat} {G Q : Nat → Nat} {K : Sk} (s : IsSk w p G Q K) (hK : K.Ok) :
    Calls Try.prog 14 #[.pointer (some ⟨p, 0, none⟩)] w fun e w' => e = .returned (.int .i64 0) ∧ Keeps (blocks p G) w w' ∧ IsSk w' p G Q K.half := by
  have c5 : w.cell? ⟨p, 5, none⟩ = some (.slice (some ⟨G 0, 0, none⟩) (K.n / 16) (Q 0)) := s.row_cell (r := 0) (by omega)
  have c6 : w.cell? ⟨p, 6, none⟩ = some (.slice (some ⟨G 1, 0, none⟩) (K.n / 16) (Q 1)) := s.row_cell (r := 1) (by omega)
  have c7 : w.cell? ⟨p, 7, none⟩ = some (.slice (some ⟨G 2, 0, none⟩) (K.n / 16) (Q 2)) := s.row_cell (r := 2) (by omega)
  have c8 : w.cell? ⟨p, 8, none⟩ = some (.slice (some ⟨G 3, 0, none⟩) (K.n / 16) (Q 3)) := s.row_cell (r := 3) (by omega)
  have hN : K.n / 16 ≤ 4096 := by have := hK.n16; omega
  go_enter Try.func14, Try.ntmps14
  go_wp2_with (first | (go_at_call 28; refine (zero_is s hK).mono ?_; rintro e w1 ⟨rfl, rfl⟩))
  clear c5 c6 c7 c8
  go_loopw [13] (fun x wr => ∃ j : Nat, j ≤ 4 ∧ x = .int .i64 (j : Nat) ∧ Hv w p G Q K (fun r => wordsF (fun i => K.c r i / 2)) j 0 wr) (fun x _ => 5 - (intOf x).toNat)
  case atStart => exact ⟨0, by omega, rfl, Hv.start s⟩
  case round =>
    obtain ⟨j, hj, rfl, l⟩ := hrel
    by_cases hj4 : j < 4
    · have ix := fun w => index52_at (.slice (some ⟨G 0, 0, none⟩) (K.n / 16) (Q 0)) (.slice (some ⟨G 1, 0, none⟩) (K.n / 16) (Q 1)) (.slice (some ⟨G 2, 0, none⟩) (K.n / 16) (Q 2)) (.slice (some ⟨G 3, 0, none⟩) (K.n / 16) (Q 3)) j hj4 w
      have ex : #[Value.slice (some ⟨G 0, 0, none⟩) (K.n / 16) (Q 0), .slice (some ⟨G 1, 0, none⟩) (K.n / 16) (Q 1), .slice (some ⟨G 2, 0, none⟩) (K.n / 16) (Q 2), .slice (some ⟨G 3, 0, none⟩) (K.n / 16) (Q 3)].getD j undef = .slice (some ⟨G j, 0, none⟩) (K.n / 16) (Q j) := by
        have : j = 0 ∨ j = 1 ∨ j = 2 ∨ j = 3 := by omega
        rcases this with rfl | rfl | rfl | rfl <;> rfl
      rw [ex] at ix
      clear ex
      go_wp2_with fail
      clear ix
      go_loopw [18] (fun x wq => ∃ k : Nat, k ≤ K.n / 16 ∧ x = .int .i64 (k : Nat) ∧ Hv w p G Q K (fun r => wordsF (fun i => K.c r i / 2)) j k wq) (fun x _ => K.n / 16 + 1 - (intOf x).toNat)
      case atStart => exact ⟨0, by omega, rfl, l⟩
      case round =>
        obtain ⟨k, hk, rfl, l⟩ := hrel
        by_cases hkn : k < K.n / 16
        · have c1 := (l.rows j hj4).cell hkn
          rw [if_neg (by omega)] at c1
          have z1 := (l.rows j hj4).frozen k
          have hw := half_law (hK.small j) k
          have H1 := Lib.hid hw
          clear hw
          have hk2 : k < 4096 := by omega
          have hw1 : 0 ≤ wordsF (K.c j) k ∧ wordsF (K.c j) k < 18446744073709551616 := by have := pack_lt (hK.small j) k; unfold wordsF; omega
          obtain ⟨hw2, hw3⟩ := hw1
          clear hN
          generalize hx : wordsF (K.c j) k = x at *
          have H2 := Lib.hid hx
          clear hx
          go_wp2_with fail
          go_roundw
          case rel => exact ⟨k + 1, by omega, by go_num, l.word s hj4 _ H1.out.symm⟩
          all_goals (simp [intOf]; omega)
        · obtain rfl : k = K.n / 16 := by omega
          go_wp2_with fail
          go_roundw
          case rel => exact ⟨j + 1, by omega, by go_num, l.row⟩
          all_goals (simp [intOf]; omega)
    · have c2 : wr.cell? ⟨p, 2, none⟩ = some (.int .i64 (K.a : Nat)) := cell_of l.obj 2
      have z2 : wr.frozen? ⟨p, 2, none⟩ = false := frozen_of l.obj 2
      have ha := hK.few
      obtain rfl : j = 4 := by omega
      go_wp2_with fail
      go_ret
      refine ⟨rfl, l.keeps.setCell (.inl (mem_blocks.2 (.inl rfl))) _, ⟨heap_set l.obj _, fun r hr => ((l.rows r hr).other (Ne.symm (s.ne hr)) _).congr fun i hi => ?_, s.apart⟩⟩
      rw [if_pos (.inl hr)]; rfl
theorem Hv.put {w W : World} {p : Nat} {G Q : Nat → Nat} {K : Sk} {F : Nat → Nat → Int} {j q : Nat} (s : IsSk w p G Q K) (h : Hv w p G Q K F j 0 W) (hj : j < 4) (x : Int) (hx : F j q = x) (ho : ∀ i, i ≠ q → F j i = wordsF (K.c j) i) : Hv w p G Q K F (j + 1) 0 (W.setCell ⟨G j, q, none⟩ (.int .u64 x)) := by
  refine ⟨h.keeps.setCell (.inl (mem_blocks.2 (.inr ⟨j, hj, rfl⟩))) _, heap_other h.obj (s.ne hj) _, fun r hr => ?_⟩
  by_cases e : r = j
  · subst e
    refine (h.rows r hr).set q x ?_ ?_
    · rw [if_pos (by omega)]; exact hx
    · intro i hi
      rw [if_pos (by omega), if_neg (by omega)]
      exact ho i hi
  · refine ((h.rows r hr).other (s.apart r j hr hj e) _).congr fun i hi => ?_
    by_cases q : r < j
    · rw [if_pos (by omega), if_pos (by omega)]
    · rw [if_neg (by omega), if_neg (by omega)]
theorem Hv.skip {w W : World} {p : Nat} {G Q : Nat → Nat} {K : Sk} {F : Nat → Nat → Int} {j : Nat} (h : Hv w p G Q K F j 0 W) (ho : ∀ i, F j i = wordsF (K.c j) i) : Hv w p G Q K F (j + 1) 0 W :=
  ⟨h.keeps, h.obj, fun r hr => (h.rows r hr).congr fun i hi => by
    by_cases q : r < j
    · rw [if_pos (by omega), if_pos (by omega)]
    · by_cases e : r = j
      · subst e; rw [if_pos (by omega), if_neg (by omega)]; exact ho i
      · rw [if_neg (by omega), if_neg (by omega)]⟩
/-- The sketch while a key is added. -/
def Sk.part (K : Sk) (l : List UInt8) (j : Nat) : Sk := ⟨K.n, K.s, K.a, K.seed, fun r => if r < j then (K.up l).c r else K.c r⟩
theorem Sk.up_small {K : Sk} (h : K.Ok) (l : List UInt8) (r : Nat) : Small ((K.up l).c r) := fun i => by
  have := h.small r i
  show (if i = K.plc l r then min 15 (K.c r i + 1) else K.c r i) ≤ 15
  split <;> omega
theorem Sk.Ok.part {K : Sk} (h : K.Ok) (l : List UInt8) (j : Nat) : (K.part l j).Ok := ⟨h.pow, h.seed, h.few, h.most, fun r i => by
  show (if r < j then (K.up l).c r else K.c r) i ≤ 15
  split
  · exact Sk.up_small h l r i
  · exact h.small r i⟩
theorem Sk.Ok.up {K : Sk} (h : K.Ok) (l : List UInt8) (ha : K.a + 1 < 16777217) : (K.up l).Ok := ⟨h.pow, h.seed, ha, h.most, fun r => Sk.up_small h l r⟩
theorem Sk.Ok.add {K : Sk} (h : K.Ok) (l : List UInt8) (ha : K.a + 1 < 16777217) : (K.add l).Ok := by
  unfold Sk.add
  split
  · exact (h.up l ha).half
  · exact h.up l ha
theorem Hv.sk {w W : World} {p : Nat} {G Q : Nat → Nat} {K : Sk} {l : List UInt8} {j : Nat} (s : IsSk w p G Q K) (h : Hv w p G Q K (fun r => wordsF ((K.up l).c r)) j 0 W) : IsSk W p G Q (K.part l j) :=
  ⟨h.obj, fun r hr => (h.rows r hr).congr fun i hi => by
    show wordsF (if r < j then (K.up l).c r else K.c r) i = _
    by_cases q : r < j
    · rw [if_pos q, if_pos (.inl q)]
    · rw [if_neg q, if_neg (by omega)], s.apart⟩
theorem up_less {K : Sk} (l : List UInt8) (r : Nat) (h : K.c r (K.plc l r) < 15) : (K.up l).c r = _root_.Go.Proofs.Ytffniljefbpoiaa.upd (K.c r) (K.plc l r) (K.c r (K.plc l r) + 1) := by
  funext i
  show (if i = K.plc l r then min 15 (K.c r i + 1) else K.c r i) = if i = K.plc l r then K.c r (K.plc l r) + 1 else K.c r i
  split
  · next e => rw [e]; omega
  · rfl
theorem up_full {K : Sk} (hK : K.Ok) (l : List UInt8) (r : Nat) (h : ¬ K.c r (K.plc l r) < 15) : (K.up l).c r = K.c r := by
  funext i
  have := hK.small r i
  show (if i = K.plc l r then min 15 (K.c r i + 1) else K.c r i) = K.c r i
  split
  · next e => rw [e] at this ⊢; omega
  · rfl
set_option maxRecDepth 100000 in
theorem add_is {w : World} {p : Nat} {G Q : Nat → Nat} {K : Sk} (s : IsSk w p G Q K) (hK : K.Ok) (key : ByteArray) (hs : key.size ≤ maxLen) (ha : K.a + 1 < 16777217) :
    Calls Try.prog 12 #[.pointer (some ⟨p, 0, none⟩), .string key] w fun e w' => e = .returned (.tuple #[.bool K.full, .int .i64 0]) ∧ Keeps (blocks p G) w w' ∧ IsSk w' p G Q (K.add key.data.toList) := by
  have hn := hK.n16
  have hN1 : K.n ≤ 65536 := by omega
  go_enter Try.func12, Try.ntmps12
  go_wp2_with (first | (go_at_call 28; refine (zero_is s hK).mono ?_; rintro e w1 ⟨rfl, rfl⟩) | (go_at_call 29; refine (places_is s hK key hs).mono ?_; rintro e w2 ⟨rfl, b2⟩; have s2 := s.below b2))
  have hpl : ∀ r, K.plc key.data.toList r < K.n := fun r => Sk.plc_lt hK key.data.toList r
  generalize hl : key.data.toList = l at *
  go_loopw [13] (fun x wr => ∃ j : Nat, j ≤ 4 ∧ x = .int .i64 (j : Nat) ∧ Hv w2 p G Q K (fun r => wordsF ((K.up l).c r)) j 0 wr) (fun x _ => 5 - (intOf x).toNat)
  case atStart => exact ⟨0, by omega, rfl, Hv.start s2⟩
  case round =>
    obtain ⟨j, hj, rfl, v⟩ := hrel
    by_cases hj4 : j < 4
    · have ix := fun w => index56_at (.int .i64 (K.plc l 0 : Nat)) (.int .i64 (K.plc l 1 : Nat)) (.int .i64 (K.plc l 2 : Nat)) (.int .i64 (K.plc l 3 : Nat)) j hj4 w
      have ex : #[Value.int .i64 (K.plc l 0 : Nat), .int .i64 (K.plc l 1 : Nat), .int .i64 (K.plc l 2 : Nat), .int .i64 (K.plc l 3 : Nat)].getD j undef = .int .i64 (K.plc l j : Nat) := by
        have : j = 0 ∨ j = 1 ∨ j = 2 ∨ j = 3 := by omega
        rcases this with rfl | rfl | rfl | rfl <;> rfl
      rw [ex] at ix
      clear ex
      have sj := v.sk s2
      have hpj := hpl j
      have ecj : (K.part l j).c j (K.plc l j) = K.c j (K.plc l j) := by
        show (if j < j then (K.up l).c j else K.c j) (K.plc l j) = _
        rw [if_neg (by omega)]
      have A := at_is sj (hK.part l j) hj4 hpj
      rw [ecj] at A
      have c5 : wr.cell? ⟨p, 5 + j, none⟩ = some (.slice (some ⟨G j, 0, none⟩) (K.n / 16) (Q j)) := sj.row_cell hj4
      have c1 := (v.rows j hj4).cell (i := K.plc l j / 16) (by omega)
      rw [if_neg (by omega)] at c1
      have z1 := (v.rows j hj4).frozen (K.plc l j / 16)
      have hP : K.plc l j / 16 < K.n / 16 := by omega
      clear hn ecj
      go_upto_region 7 with (first | (go_at_call 30; refine A.mono ?_; rintro e w1 ⟨rfl, rfl⟩))
      · have h15 : K.c j (K.plc l j) < 15 := by omega
        have e1 : wordsF ((K.up l).c j) (K.plc l j / 16) = wordsF (K.c j) (K.plc l j / 16) + ((2 ^ (K.plc l j % 16 * 4) : Nat) : Int) := by
          unfold wordsF; rw [up_less l j h15, pack_upd_same]; omega
        have e2 : ∀ i, i ≠ K.plc l j / 16 → wordsF ((K.up l).c j) i = wordsF (K.c j) i := fun i hi => by
          unfold wordsF; rw [up_less l j h15, pack_upd_other _ _ _ hi]
        have b1 : wordsF ((K.up l).c j) (K.plc l j / 16) < 18446744073709551616 := by
          have := pack_lt (Sk.up_small hK l j) (K.plc l j / 16); unfold wordsF; omega
        have b0 : 0 ≤ wordsF (K.c j) (K.plc l j / 16) := by unfold wordsF; omega
        have H1 := Lib.hid e1
        have H2 := Lib.hid e2
        have H3 := Lib.hid b1
        clear e1 e2 b1 hpl A ix sj
        generalize K.plc l j = P at *
        generalize wordsF (K.c j) (P / 16) = x at *
        have hP6 : P < 65536 := by omega
        clear hpj
        go_region
        go_wp2_with fail
        go_roundw
        case rel =>
          refine ⟨j + 1, by omega, by go_num, ?_⟩
          have h1 := H1.out
          have h3 := H3.out
          have hv := Hv.put s2 v hj4 (x + ((2 ^ (P % 16 * 4) : Nat) : Int)) h1 H2.out
          have ev : IntKind.u64.wrap (x + IntKind.u64.wrap (2 ^ (P % 16 * 4))) = x + ((2 ^ (P % 16 * 4) : Nat) : Int) := by
            rw [IntKind.wrap_u64, IntKind.wrap_u64, show (2 : Int) ^ (P % 16 * 4) = ((2 ^ (P % 16 * 4) : Nat) : Int) by simp]
            rw [h1] at h3
            generalize 2 ^ (P % 16 * 4) = y at *
            omega
          rw [ev]
          exact ⟨hv.keeps.drew, hv.obj, hv.rows⟩
        all_goals (simp [intOf]; omega)
      · go_roundw
        case rel => exact ⟨j + 1, by omega, by go_num, v.skip fun i => by show wordsF ((K.up l).c j) i = _; rw [up_full hK l j (by omega)]⟩
        all_goals (simp [intOf]; omega)
    · obtain rfl : j = 4 := by omega
      have c1 : wr.cell? ⟨p, 1, none⟩ = some (.int .i64 (K.s : Nat)) := cell_of v.obj 1
      have c2 : wr.cell? ⟨p, 2, none⟩ = some (.int .i64 (K.a : Nat)) := cell_of v.obj 2
      have z2 : wr.frozen? ⟨p, 2, none⟩ = false := frozen_of v.obj 2
      clear hn
      go_upto_region 10 with fail
      refine wp_seen (fun W => Keeps (blocks p G) w W ∧ IsSk W p G Q (K.up l)) ⟨(((Keeps.of_below b2).trans v.keeps (fun i hi => .inl hi)).setCell (.inl (mem_blocks.2 (.inl rfl))) _), heap_set v.obj _, fun r hr => ((v.rows r hr).other (Ne.symm (s.ne hr)) _).congr fun i hi => by rw [if_pos (.inl hr)], s.apart⟩ ?_
      rintro W ⟨k5, s5⟩
      have hU := hK.up l ha
      clear c1 c2 z2 v
      have c1 : W.cell? ⟨p, 1, none⟩ = some (.int .i64 (K.s : Nat)) := cell_of s5.obj 1
      have c2 : W.cell? ⟨p, 2, none⟩ = some (.int .i64 ((K.a : Int) + 1)) := cell_of s5.obj 2
      have hs2 := hK.most
      clear hpl
      go_region
      by_cases hf : K.a + 1 = K.s
      · have hf1 : (K.a : Int) + 1 = K.s := by omega
        have ef : K.full = true := by unfold Sk.full; simp; omega
        have k6 := k5.drew
        have s6 : IsSk W.drew p G Q (K.up l) := s5.keep (S := []) (Keeps.refl _ _).drew (by simp)
        go_wp2_with (first | (go_at_call 14; refine (halve_is s6 hU).mono ?_; rintro e w9 ⟨rfl, k9, s9⟩))
        go_ret2
        refine ⟨by rw [ef]; rfl, k6.trans k9 (fun i hi => .inl hi), ?_⟩
        rw [hl]; unfold Sk.add; rw [ef]; exact s9
      · have hf1 : ¬ (K.a : Int) + 1 = K.s := by omega
        have ef : K.full = false := by unfold Sk.full; simp; omega
        go_wp2_with fail
        go_ret2
        refine ⟨by rw [ef]; rfl, k5.drew, ?_⟩
        rw [hl]; unfold Sk.add; rw [ef]; exact s5.keep (S := []) (Keeps.refl _ _).drew (by simp)
end Go.Proofs.Ytffniljefbpoiaa
