/-
  The contracts of the reference's Same, Ints, Ones and Words.
-/
import Derived.Test.YtihgidkkdjmlkaaK
namespace Go.Proofs.Ytihgidkkdjmlkaa
open Go.ChangeShapes Go.WideShapes Go.ChangeAt Go.RowKit
set_option linter.unusedVariables false

theorem below_drewN {B : Nat} {a w : World} (h : Below B a w) (n : Nat) : Below B a (w.drewN n) := ⟨h.os, h.tape, h.output, h.size, h.block⟩
theorem same_is {w : World} {g1 g2 n c1 c2 : Nat} {f f' : Nat → Int} (h1 : Nums w .u64 22 g1 n c1 f) (h2 : Nums w .u64 22 g2 n c2 f') (hf : ∀ i, i < n → f i = f' i) (hn : n ≤ 1048576) :
    Calls Try.prog 23 #[.slice (some ⟨g1, 0, none⟩) n c1, .slice (some ⟨g2, 0, none⟩) n c2] w fun e w' => e = .returned (.bool true) ∧ Below w.heap.size w w' := by
  have HF := Lib.hid hf
  clear hf
  go_enter Try.func23, Try.ntmps23
  go_wp2_with fail
  go_loopw [5] (fun x wr => ∃ i : Nat, i ≤ n ∧ x = .int .i64 (i : Nat) ∧ Below w.heap.size w wr) (fun x _ => n - (intOf x).toNat)
  case atStart => exact ⟨0, Nat.zero_le _, rfl, Below.refl _ _⟩
  case round =>
    obtain ⟨i, hi, rfl, b⟩ := hrel
    by_cases hlt : i < n
    · have m1 := (h1.keep (Keeps.of_below (S := []) b) (by simp)).cell hlt
      have m2 := (h2.keep (Keeps.of_below (S := []) b) (by simp)).cell hlt
      rw [← HF.out i hlt] at m2
      have f1 : (0 : Int) ≤ (i : Int) := by omega
      have f2 : (i : Int) < (n : Int) := by omega
      generalize f i = x at *
      have e1 : (x == x) = true := by simp
      have e2 : (x != x) = false := by simp
      go_wp2_with fail
      go_quiet (fail)
      go_wp2_with fail
      go_roundw
      case rel => exact ⟨i + 1, by omega, by go_num, below_drewN b _⟩
      all_goals (simp [intOf]; omega)
    · obtain rfl : n = i := by omega
      go_wp2_with fail
      go_ret
      exact ⟨rfl, b⟩
/-- A slice that reads as a list of numbers. -/
def IsInts (w : World) (A : Option Addr) (L : List Int) : Prop := ∃ g, A = some ⟨g, 0, none⟩ ∧ g < w.heap.size ∧ ∀ i x, L[i]? = some x → w.cell? ⟨g, i, none⟩ = some (.int .i64 x)
theorem IsInts.of_own {w : World} {B n c : Nat} {A : Option Addr} {L : List Int} (h0 : 0 < n) (own : w.ownsRow B 3 1 (.slice A n c) n (L.map (Value.int .i64))) : IsInts w A L := by
  obtain ⟨g, rfl, hg⟩ := own_int_some own h0
  refine ⟨g, rfl, ?_, fun i x hx => own_int_cell own hx⟩
  obtain ⟨hl, ⟨h, h0⟩ | ⟨g', c2, cur, h, hb, hh, _⟩⟩ := own
  · cases h
  · obtain ⟨rfl, rfl⟩ : g = g' ∧ c = c2 := by simpa using h
    exact lt_of_heap hh
theorem IsInts.below {w W : World} {A : Option Addr} {L : List Int} (h : IsInts w A L) (k : Below w.heap.size w W) : IsInts W A L := by
  obtain ⟨g, e, hg, hc⟩ := h
  exact ⟨g, e, Nat.lt_of_lt_of_le hg k.size, fun i x hx => (k.cell (p := ⟨g, i, none⟩) hg).trans (hc i x hx)⟩
theorem ints_is {w : World} {A B : Option Addr} {n c1 c2 : Nat} {L : List Int} (h1 : IsInts w A L) (h2 : IsInts w B L) (hl : L.length = n) (hn : n ≤ 1048576) :
    Calls Try.prog 33 #[.slice A n c1, .slice B n c2] w fun e w' => e = .returned (.bool true) ∧ Below w.heap.size w w' := by
  have Hl := Lib.hid hl
  clear hl
  obtain ⟨g1, rfl, q1⟩ := id h1
  obtain ⟨g2, rfl, q2⟩ := id h2
  clear q1 q2
  go_enter Try.func33, Try.ntmps33
  go_wp2_with fail
  go_loopw [5] (fun x wr => ∃ i : Nat, i ≤ n ∧ x = .int .i64 (i : Nat) ∧ Below w.heap.size w wr) (fun x _ => n - (intOf x).toNat)
  case atStart => exact ⟨0, Nat.zero_le _, rfl, Below.refl _ _⟩
  case round =>
    obtain ⟨i, hi, rfl, b⟩ := hrel
    by_cases hlt : i < n
    · obtain ⟨x, hx⟩ : ∃ x, L[i]? = some x := ⟨_, List.getElem?_eq_getElem (by rw [Hl.out]; exact hlt)⟩
      obtain ⟨_, e1, _, m1⟩ := h1.below b
      obtain ⟨_, e2, _, m2⟩ := h2.below b
      simp at e1 e2
      subst e1 e2
      have m1 := m1 i x hx
      have m2 := m2 i x hx
      clear hx
      have f1 : (0 : Int) ≤ (i : Int) := by omega
      have f2 : (i : Int) < (n : Int) := by omega
      have e1 : (x == x) = true := by simp
      have e2 : (x != x) = false := by simp
      go_wp2_with fail
      go_quiet (fail)
      go_wp2_with fail
      go_roundw
      case rel => exact ⟨i + 1, by omega, by go_num, below_drewN b _⟩
      all_goals (simp [intOf]; omega)
    · obtain rfl : n = i := by omega
      go_wp2_with fail
      go_ret
      exact ⟨rfl, b⟩
theorem cntB_succ (f : Nat → Bool) (i : Nat) : cntB f (i + 1) = cntB f i + (f i).toNat := rfl
theorem rones_is {w : World} {K : Bl} {r c : Nat} (s : Bools w r K.n c K.b) (hK : K.Ok) :
    Calls Try.prog 31 #[refV K r c] w fun e w' => e = .returned (.int .i64 (K.ones : Nat)) ∧ Below w.heap.size w w' := by
  have h64 := hK.n64
  obtain ⟨h641, h642, h643⟩ := h64
  clear h643
  have z0 : Below w.heap.size w (w.alloc (.cells (refC K r c) 25)) ∧ (w.alloc (.cells (refC K r c) 25)).heap[w.heap.size]? = some (.cells (refC K r c) 25 (0, 0)) ∧ Bools (w.alloc (.cells (refC K r c) 25)) r K.n c K.b := ⟨(Below.refl _ _).alloc (Nat.le_refl _) _, heap_new rfl, s.alloc _⟩
  unfold refV
  go_enter Try.func31, Try.ntmps31
  go_upto_region 1 with fail
  refine wp_seen (fun W => Below w.heap.size w W ∧ W.heap[w.heap.size]? = some (.cells (refC K r c) 25 (0, 0)) ∧ Bools W r K.n c K.b) z0 ?_
  clear z0
  rintro W ⟨b1, x1, s1⟩
  have m2 : W.cell? ⟨w.heap.size, 2, none⟩ = some (.slice (some ⟨r, 0, none⟩) K.n c) := cell_of x1 2
  generalize hN : w.heap.size = N at *
  have HN := Lib.hid hN
  clear hN
  go_wp2_with fail
  go_loop [3, 4] (fun a x => ∃ i : Nat, i ≤ K.n ∧ a = .int .i64 ((cntB K.b i : Nat) : Int) ∧ x = .int .i64 (i : Nat)) (fun _ x => K.n - (intOf x).toNat)
  case atStart => exact ⟨0, Nat.zero_le _, rfl, rfl⟩
  case round =>
    obtain ⟨i, hi, rfl, rfl⟩ := hrel
    have hcl := cntB_le K.b i
    by_cases hlt : i < K.n
    · have mb := s1.cell hlt
      have hs := cntB_succ K.b i
      cases hb : K.b i with
      | true =>
        rw [hb] at mb hs
        rw [show (true).toNat = 1 from rfl] at hs
        have HS := Lib.hid hs
        clear hs hb
        go_wp2_with fail
        go_round
        case rel => exact ⟨i + 1, by omega, by rw [HS.out]; go_num, by go_num⟩
        case measure => simp [intOf]; omega
      | false =>
        rw [hb] at mb hs
        rw [show (false).toNat = 0 from rfl] at hs
        have HS := Lib.hid hs
        clear hs hb
        go_wp2_with fail
        go_round
        case rel => exact ⟨i + 1, by omega, by rw [HS.out]; go_num, by go_num⟩
        case measure => simp [intOf]; omega
    · obtain rfl : K.n = i := by omega
      go_wp2_with fail
      go_ret
      exact ⟨rfl, by rw [HN.out]; exact b1⟩
/-- The words while they are made. -/
def upto (f : Nat → Bool) (i : Nat) : Nat → Bool := fun j => f j && decide (j < i)
theorem upto_zero (f : Nat → Bool) (k : Nat) : wordsF (upto f 0) k = 0 := by
  unfold wordsF
  rw [pack_congr (g := fun _ => false) (fun j _ => by unfold upto; simp), pack_none]; rfl
theorem upto_skip {f : Nat → Bool} {i : Nat} (h : f i = false) (k : Nat) : wordsF (upto f (i + 1)) k = wordsF (upto f i) k := by
  unfold wordsF
  rw [pack_congr (fun j _ => by
    show (f (64 * k + j) && decide (64 * k + j < i + 1)) = upto f i (64 * k + j)
    unfold upto
    by_cases e : 64 * k + j = i
    · rw [e, h]; simp
    · have : decide (64 * k + j < i + 1) = decide (64 * k + j < i) := by rw [decide_eq_decide]; omega
      rw [this])]
theorem upto_set {f : Nat → Bool} {i : Nat} (h : f i = true) : upto f (i + 1) = setB (upto f i) i := by
  funext j
  unfold upto setB
  by_cases e : j = i
  · subst e; simp [h]
  · have : decide (j < i + 1) = decide (j < i) := by rw [decide_eq_decide]; omega
    rw [this]; simp [e]
theorem upto_at (f : Nat → Bool) (i : Nat) : upto f i i = false := by unfold upto; simp
theorem add_law (f : Nat → Bool) (i : Nat) (h : f i = false) : IntKind.u64.wrap (((pack f (i / 64) : Nat) : Int) + IntKind.u64.wrap (2 ^ (i % 64))) = ((pack (setB f i) (i / 64) : Nat) : Int) := by
  have hl := pack_lt (setB f i) (i / 64)
  have e := pack_inc f i h
  have hp : (2 : Nat) ^ (i % 64) < 2 ^ 64 := Nat.pow_lt_pow_right (by omega) (by omega)
  have h64 : (2 : Nat) ^ 64 = 18446744073709551616 := rfl
  rw [IntKind.wrap_u64, IntKind.wrap_u64, show ((2 : Int) ^ (i % 64)) = ((2 ^ (i % 64) : Nat) : Int) by simp]
  generalize (2 : Nat) ^ (i % 64) = x at *
  omega
/-- What the reference's Words keeps. -/
structure WrI (w : World) (N r c d : Nat) (K : Bl) (i : Nat) (W : World) : Prop where
  bel : Below N w W
  box : W.heap[N]? = some (.cells (refC K r c) 25 (0, 0))
  set : Bools W r K.n c K.b
  out : Nums W .u64 22 d (K.n / 64) (K.n / 64) (wordsF (upto K.b i))
  here : N ≤ d
theorem WrI.next {w W : World} {N r c d i : Nat} {K : Bl} (z : WrI w N r c d K i W) (h : K.b i = true) : WrI w N r c d K (i + 1) ((W.setCell ⟨d, i / 64, none⟩ (.int .u64 ((pack (setB (upto K.b i) i) (i / 64) : Nat) : Int))).drew) := by
  have n1 : N ≠ d := fun e => by
    obtain ⟨cur, hh, _⟩ := z.out
    have := z.box
    rw [e, hh] at this
    simp at this
  have n2 : r ≠ d := fun e => by
    obtain ⟨cur, hh, _⟩ := z.out
    obtain ⟨cur2, hh2, _⟩ := z.set
    rw [e, hh] at hh2
    simp at hh2
  have b := below_put z.bel (i := i / 64) z.here (.int .u64 ((pack (setB (upto K.b i) i) (i / 64) : Nat) : Int))
  refine ⟨⟨b.os, b.tape, b.output, b.size, b.block⟩, heap_other z.box n1 _, z.set.other n2 _, ?_, z.here⟩
  exact z.out.set (i / 64) _ (by rw [upto_set h]; rfl) (fun j hj => by show ((pack (upto K.b (i + 1)) j : Nat) : Int) = ((pack (upto K.b i) j : Nat) : Int); rw [upto_set h, pack_other _ _ _ hj])
set_option maxRecDepth 100000 in
theorem rwords_is {w : World} {K : Bl} {r c : Nat} (s : Bools w r K.n c K.b) (hK : K.Ok) :
    Calls Try.prog 30 #[refV K r c] w fun e w' => ∃ d, e = .returned (.slice (some ⟨d, 0, none⟩) (K.n / 64) (K.n / 64)) ∧ Nums w' .u64 22 d (K.n / 64) (K.n / 64) (wordsF K.b) ∧ Below w.heap.size w w' ∧ w.heap.size ≤ d := by
  have h64 := hK.n64
  obtain ⟨h641, h642, h643⟩ := h64
  have hmk := make_words (K.n / 64) (by omega)
  have hc : ((K.n / 64 : Nat) : Int) = (K.n : Int) / 64 := by omega
  simp only [hc] at hmk
  have H643 := Lib.hid h643
  clear hc h643
  have hK2 : K.n / 64 ≤ 16384 := by omega
  have z0 : Below w.heap.size w (w.alloc (.cells (refC K r c) 25)) ∧ (w.alloc (.cells (refC K r c) 25)).heap[w.heap.size]? = some (.cells (refC K r c) 25 (0, 0)) ∧ Bools (w.alloc (.cells (refC K r c) 25)) r K.n c K.b := ⟨(Below.refl _ _).alloc (Nat.le_refl _) _, heap_new rfl, s.alloc _⟩
  unfold refV
  go_enter Try.func30, Try.ntmps30
  go_upto_region 1 with fail
  refine wp_seen (fun W => Below w.heap.size w W ∧ W.heap[w.heap.size]? = some (.cells (refC K r c) 25 (0, 0)) ∧ Bools W r K.n c K.b) z0 ?_
  clear z0
  rintro W ⟨b1, x1, s1⟩
  have m2 : W.cell? ⟨w.heap.size, 2, none⟩ = some (.slice (some ⟨r, 0, none⟩) K.n c) := cell_of x1 2
  have hNW := b1.size
  generalize hN : w.heap.size = N at *
  have HN := Lib.hid hN
  clear hN
  have z1 : WrI w N r c W.heap.size K 0 (W.alloc (.cells (madeCells #[.int .u64 0] (K.n / 64)) 22)) := ⟨b1.alloc hNW _, heap_alloc x1 _, s1.alloc _, (Nums.zeros (by unfold maxLen; omega)).congr (fun i _ => upto_zero K.b i), hNW⟩
  go_upto_region 2 with fail
  refine wp_seen _ z1 ?_
  clear z1 m2 b1 x1 s1 hmk
  rintro V z
  generalize W.heap.size = d at *
  go_wp2_with fail
  go_loopw [4] (fun x wr => ∃ i : Nat, i ≤ K.n ∧ x = .int .i64 (i : Nat) ∧ WrI w N r c d K i wr) (fun x _ => K.n - (intOf x).toNat)
  case atStart => exact ⟨0, Nat.zero_le _, rfl, z⟩
  case round =>
    obtain ⟨i, hi, rfl, zr⟩ := hrel
    clear z
    have m2 : wr.cell? ⟨N, 2, none⟩ = some (.slice (some ⟨r, 0, none⟩) K.n c) := cell_of zr.box 2
    by_cases hlt : i < K.n
    · have mb := zr.set.cell hlt
      cases hb : K.b i with
      | true =>
        rw [hb] at mb
        have zn := zr.next hb
        have cw := zr.out.cell (i := i / 64) (by have := H643.out; omega)
        have fw := zr.out.frozen (i / 64)
        have hal := add_law (upto K.b i) i (upto_at _ _)
        clear hb
        have hb1 : i / 64 < K.n / 64 := by have := H643.out; omega
        have hb0 : (0 : Int) ≤ (i : Int) := by omega
        have hb2 : (0 : Int) ≤ (i : Int) / 64 := by omega
        have hb3 : (i : Int) / 64 < ((K.n / 64 : Nat) : Int) := by have := H643.out; omega
        have hb4 : (0 : Int) ≤ (i : Int) % 64 := by omega
        have hb5 : (i : Int) % 64 < 64 := by omega
        unfold wordsF at cw
        go_wp2_with fail
        go_region
        all_goals go_wp2_with fail
        all_goals go_roundw
        case rel => exact ⟨i + 1, by omega, by go_num, zn⟩
        all_goals (simp [intOf]; omega)
      | false =>
        rw [hb] at mb
        have hsk := fun k => upto_skip hb k
        have HS := Lib.hid hsk
        clear hsk hb
        go_wp2_with fail
        go_roundw
        case rel => exact ⟨i + 1, by omega, by go_num, ⟨zr.bel, zr.box, zr.set, zr.out.congr (fun k _ => HS.out k), zr.here⟩⟩
        all_goals (simp [intOf]; omega)
    · obtain rfl : K.n = i := by omega
      go_wp2_with fail
      go_ret
      refine ⟨d, rfl, zr.out.congr (fun k hk => ?_), by rw [HN.out]; exact zr.bel, by rw [HN.out]; exact zr.here⟩
      unfold wordsF
      rw [pack_congr (fun j hj => by
        show K.b (64 * k + j) = upto K.b K.n (64 * k + j)
        unfold upto
        rw [decide_eq_true (by omega)]; simp)]
end Go.Proofs.Ytihgidkkdjmlkaa
