/-
  The contracts of a filter's small methods: zero, each with its three visits, Has, Add, Places.
-/
import Derived.Test.YtihgidkkdjmlkaaC
import Derived.Laws.Bits128
import Derived.Deep.DeepAppendWide
import Derived.Lib.AppendZerosOnto
namespace Go.Proofs.Ytihgidkkdjmlkaa
open Go.ChangeShapes Go.WideShapes Go.ChangeAt Go.RowKit
set_option linter.unusedVariables false

theorem wrap64_mod (x : Int) (e : Nat) (he : e ≤ 64) : wrap64 x % ((2 ^ e : Nat) : Int) = x % ((2 ^ e : Nat) : Int) := by
  obtain ⟨q, hq⟩ : ∃ q : Int, wrap64 x = x + 18446744073709551616 * q := ⟨-((x + 9223372036854775808) / 18446744073709551616), by unfold wrap64; omega⟩
  have h64 : (18446744073709551616 : Int) = ((2 ^ e : Nat) : Int) * ((2 ^ (64 - e) : Nat) : Int) := by
    rw [← Int.natCast_mul, ← Nat.pow_add, show e + (64 - e) = 64 by omega]; rfl
  rw [hq, h64, Int.mul_assoc, Int.add_mul_emod_self_left]
theorem i64_mask (x : Int) (e : Nat) (he : e < 63) : bits .and .i64 x (((2 ^ e : Nat) : Int) - 1) = x % ((2 ^ e : Nat) : Int) := by
  have hp : 0 < 2 ^ e := Nat.pow_pos (by omega)
  have hl : 2 ^ e < 2 ^ 63 := Nat.pow_lt_pow_right (by omega) he
  have hm : (BitVec.ofInt 64 (((2 ^ e : Nat) : Int) - 1)).toNat = 2 ^ e - 1 := by
    rw [show (((2 ^ e : Nat) : Int) - 1) = ((2 ^ e - 1 : Nat) : Int) by omega, BitVec.ofInt_natCast, BitVec.toNat_ofNat]
    exact Nat.mod_eq_of_lt (by omega)
  have key : (BitVec.ofInt 64 x &&& BitVec.ofInt 64 (((2 ^ e : Nat) : Int) - 1)).toNat = (x % ((2 ^ 64 : Nat) : Int)).toNat % 2 ^ e := by
    rw [BitVec.toNat_and, BitVec.toNat_ofInt, hm, Nat.and_two_pow_sub_one_eq_mod]
  show IntKind.i64.wrap ((BitVec.ofInt 64 x &&& BitVec.ofInt 64 (((2 ^ e : Nat) : Int) - 1)).toNat : Nat) = _
  rw [key, IntKind.wrap_i64]
  have hlt : (x % ((2 ^ 64 : Nat) : Int)).toNat % 2 ^ e < 2 ^ e := Nat.mod_lt _ hp
  have h63 : (2 : Nat) ^ 63 = 9223372036854775808 := rfl
  have e1 : (((x % ((2 ^ 64 : Nat) : Int)).toNat % 2 ^ e : Nat) : Int) = x % ((2 ^ e : Nat) : Int) := by
    rw [Int.natCast_emod, Int.toNat_of_nonneg (Int.emod_nonneg _ (by decide))]
    exact Int.emod_emod_of_dvd _ ⟨((2 ^ (64 - e) : Nat) : Int), by rw [← Int.natCast_mul, ← Nat.pow_add, show e + (64 - e) = 64 by omega]⟩
  rw [← e1]
  generalize (x % ((2 ^ 64 : Nat) : Int)).toNat % 2 ^ e = y at *
  omega
theorem bit_law (f : Nat → Bool) (i : Nat) : (bits .and .u64 (((pack f (i / 64) : Nat) : Int) / 2 ^ (i % 64)) 1 == 1) = f i := by
  have h := pack_bit f i
  have hl := pack_lt f (i / 64)
  have hd : pack f (i / 64) / 2 ^ (i % 64) < 18446744073709551616 := Nat.lt_of_le_of_lt (Nat.div_le_self _ _) hl
  have e : (((pack f (i / 64) : Nat) : Int) / 2 ^ (i % 64)) = ((pack f (i / 64) / 2 ^ (i % 64) : Nat) : Int) := by simp
  rw [e, show (1 : Int) = ((1 : Nat) : Int) from rfl, u64_and_nat _ _ hd (by omega), Nat.and_one_is_mod, h]
  cases f i <;> rfl
theorem or_law (f : Nat → Bool) (i : Nat) : bits .or .u64 ((pack f (i / 64) : Nat) : Int) (IntKind.u64.wrap (2 ^ (i % 64))) = ((pack (setB f i) (i / 64) : Nat) : Int) := by
  have hl := pack_lt f (i / 64)
  have hp : (2 : Nat) ^ (i % 64) < 2 ^ 64 := Nat.pow_lt_pow_right (by omega) (by omega)
  have e : IntKind.u64.wrap (2 ^ (i % 64)) = ((2 ^ (i % 64) : Nat) : Int) := by
    rw [IntKind.wrap_u64, show ((2 : Int) ^ (i % 64)) = ((2 ^ (i % 64) : Nat) : Int) by simp]
    have h64 : (2 : Nat) ^ 64 = 18446744073709551616 := rfl
    generalize (2 : Nat) ^ (i % 64) = x at *
    omega
  rw [e, u64_or_nat _ _ hl hp, pack_set]
theorem info3 : (Try.prog.info? 3).map (fun i => (i.zero, i.size, i.bytes)) = some (some (.int .i64 0), 1, 8) := by kernel_rfl
theorem own_shape {w : World} {B k m : Nat} {e : TypeId} {v : Value} {xs : List Value} (h : w.ownsRow B e k v m xs) : ∃ A c, v = .slice A m c := by
  obtain ⟨hl, ⟨h, h0⟩ | ⟨g, c', cur, h, hb, hh, hn, hm, hs, ht⟩⟩ := h
  · exact ⟨none, 0, by rw [h, h0]⟩
  · exact ⟨some ⟨g, 0, none⟩, c', h⟩
theorem own_ne {w : World} {base g : Nat} {e t : TypeId} {size n : Nat} {v : Value} {xs : List Value} {cs : Array Value} {fr : Nat × Nat} (h : w.ownsRow base e size v n xs) (hg : w.heap[g]? = some (.cells cs t fr)) (hne : e ≠ t) : v.ownBlock ≠ some g := by
  rcases h.2 with ⟨rfl, _⟩ | ⟨g', cap, cur, rfl, _, hh, _⟩
  · simp [Value.ownBlock]
  · intro he
    have : g' = g := by simpa [Value.ownBlock] using he
    subst this
    rw [hh] at hg
    injection hg with hg
    injection hg with _ ht
    exact hne ht
theorem app_int {w : World} {B n c : Nat} {A : Option Addr} {L : List Int} {i : Int} (own : w.ownsRow B 3 1 (.slice A n c) n (L.map (Value.int .i64))) (hb : B ≤ w.heap.size) (h1 : n + 1 ≤ 2000) (ty : TypeId) :
    ∃ v' w', (Builtin.append_ #[36, 36] ty #[.slice A n c, .slice (some ⟨w.heap.size, 0, none⟩) 1 1]).run Try.prog (w.alloc (.cells #[.int .i64 i] 3)) = .ok v' w' ∧ w'.ownsRow B 3 1 v' (n + 1) ((L ++ [i]).map (Value.int .i64)) ∧ w.grownBy w' (Value.slice A n c).ownBlock := by
  obtain ⟨i0, hi, hz, hs, hby⟩ := info_parts info3
  obtain ⟨v', w', hr, ho, hg, hnil⟩ := run_append_own_wide (P := Try.prog) (w := w.alloc (.cells #[.int .i64 i] 3)) B 36 ty 3 i0 _ 1 8 Try.underlying36 hi hz hs hby rfl (by decide) (.slice A n c) n _ (own.alloc _) ⟨w.heap.size, 0, none⟩ 1 1 [.int .i64 i] rfl (by
    intro j u hj
    have h0 : j = 0 := by have := (List.getElem?_eq_some_iff.1 hj).1; simp at this; omega
    subst h0
    obtain rfl : Value.int .i64 i = u := by simpa using hj
    exact cell_of (heap_new rfl) 0) (fun u hu => by simp at hu; subst hu; rfl) (by unfold maxLen; omega) (by omega) (Nat.le_trans hb (by simp))
  refine ⟨v', w', hr, by rw [List.map_append]; exact ho, ⟨hg.os, hg.tape, hg.output, Nat.le_trans (by simp) hg.size, fun k hk hne => (hg.block k (by simp; omega) hne).trans (Below.heap_alloc w _ k hk)⟩⟩
section
variable {w w' : World} {p g q : Nat} {K : Bl}
theorem zero_is (s : IsBl w p g q K) (hK : K.Ok) : Calls Try.prog 35 #[.pointer (some ⟨p, 0, none⟩)] w fun e w' => e = .returned (.bool false) ∧ w = w' := by
  have c0 : w.cell? ⟨p, 0, none⟩ = some (.int .i64 (K.h : Nat)) := cell_of s.obj 0
  have hz : ¬ (K.h : Int) = 0 := by have := hK.hash; omega
  go_enter Try.func35, Try.ntmps35
  go_wp2
  go_ret
  exact ⟨ret_bool (by simpa using hz), rfl⟩
theorem zero_nil (w : World) : Calls Try.prog 35 #[.pointer none] w fun e w' => e = .returned (.bool true) ∧ w = w' := by
  go_enter Try.func35, Try.ntmps35
  go_wp2
  go_ret
  exact ⟨rfl, rfl⟩
theorem hasv_is {is : Bool} {T B i : Nat} (s : IsBl w p g q K) (hK : K.Ok) (hT : w.heap[T]? = some (.cells #[.bool is] 4 (0, 0))) (hB : w.heap[B]? = some (.cells #[.pointer (some ⟨p, 0, none⟩)] 29 (0, 0))) (hi : i < K.n) :
    Calls Try.prog 37 #[.int .i64 (i : Nat), .pointer (some ⟨T, 0, none⟩), .pointer (some ⟨B, 0, none⟩)] w fun e w' => e = .returned (.tuple #[]) ∧ w' = w.setCell ⟨T, 0, none⟩ (.bool (is && K.b i)) := by
  have h64 := hK.n64
  have c4 := s.cells.2.2.2.2
  have cw := s.word (i := i / 64) (by omega)
  have cT : w.cell? ⟨T, 0, none⟩ = some (.bool is) := cell_of hT 0
  have fT := frozen_of hT 0
  have cB : w.cell? ⟨B, 0, none⟩ = some (.pointer (some ⟨p, 0, none⟩)) := cell_of hB 0
  have hb : i / 64 < K.n / 64 := by omega
  have hi2 : i < 1048576 := by omega
  clear h64
  have hw : (bits .and .u64 (((pack K.b (i / 64) : Nat) : Int) / 2 ^ (i % 64)) 1 == 1) = K.b i := bit_law K.b i
  cases is
  · go_enter Try.func37, Try.ntmps37
    go_wp2_with fail
    go_end0
    exact ⟨rfl, rfl⟩
  · go_enter Try.func37, Try.ntmps37
    go_wp2_with fail
    go_end0
    exact ⟨rfl, by rw [Bool.true_and]⟩
theorem addv_is {B i : Nat} (s : IsBl w p g q K) (hK : K.Ok) (hB : w.heap[B]? = some (.cells #[.pointer (some ⟨p, 0, none⟩)] 29 (0, 0))) (hi : i < K.n) :
    Calls Try.prog 39 #[.int .i64 (i : Nat), .pointer (some ⟨B, 0, none⟩)] w fun e w' => e = .returned (.tuple #[]) ∧ w' = (w.setCell ⟨g, i / 64, none⟩ (.int .u64 ((pack (setB K.b i) (i / 64) : Nat) : Int))).drew := by
  have h64 := hK.n64
  have c4 := s.cells.2.2.2.2
  have cw := s.word (i := i / 64) (by omega)
  have fw := s.row.frozen (i / 64)
  have cB : w.cell? ⟨B, 0, none⟩ = some (.pointer (some ⟨p, 0, none⟩)) := cell_of hB 0
  have hb : i / 64 < K.n / 64 := by omega
  have hi2 : i < 1048576 := by omega
  clear h64
  have hb0 : (0 : Int) ≤ (i : Int) := by omega
  have hb1 : (i : Int) ≤ 9223372036854775807 := by omega
  have hb2 : (0 : Int) ≤ (i : Int) / 64 := by omega
  have hb3 : (i : Int) / 64 < ((K.n / 64 : Nat) : Int) := by omega
  have hb4 : (0 : Int) ≤ (i : Int) % 64 := by omega
  have hb5 : (i : Int) % 64 < 64 := by omega
  go_enter Try.func39, Try.ntmps39
  go_wp2_with fail
  go_region
  all_goals go_wp2_with fail
  all_goals go_end0
  all_goals exact ⟨rfl, by rw [or_law K.b i]⟩
theorem placev_is {T i n c : Nat} {A : Option Addr} {L : List Int} {B : Nat} (own : w.ownsRow B 3 1 (.slice A n c) n (L.map (Value.int .i64))) (hT : w.heap[T]? = some (.cells #[.slice A n c] 36 (0, 0))) (hn : n ≤ 1000) (hB : B ≤ w.heap.size) :
    Calls Try.prog 40 #[.int .i64 (i : Nat), .pointer (some ⟨T, 0, none⟩)] w fun e w' => ∃ A' c' w1, e = .returned (.tuple #[]) ∧ w' = w1.setCell ⟨T, 0, none⟩ (.slice A' (n + 1) c') ∧ w1.ownsRow B 3 1 (.slice A' (n + 1) c') (n + 1) ((L ++ [((i : Nat) : Int)]).map (Value.int .i64)) ∧ w.grownBy w1 (Value.slice A n c).ownBlock := by
  have cT : w.cell? ⟨T, 0, none⟩ = some (.slice A n c) := cell_of hT 0
  obtain ⟨v2, w2, r2, o2, g2⟩ := app_int (i := ((i : Nat) : Int)) own hB (by omega) 36
  obtain ⟨A2, c2, rfl⟩ := own_shape o2
  have hT2 : w2.heap[T]? = some (.cells #[.slice A n c] 36 (0, 0)) := (g2.block T (lt_of_heap hT) (fun e => own_ne own hT (by decide) e.symm)).trans hT
  have c2 : w2.cell? ⟨T, 0, none⟩ = some (.slice A n c) := cell_of hT2 0
  have f2 := frozen_of hT2 0
  clear hT hT2 own
  go_enter Try.func40, Try.ntmps40
  go_wp2_with (at_builtin; refine Lib.wpList_append_run _ rfl _ _ _ _ rfl _ _ rfl rfl _ _ r2 ?_)
  all_goals go_end0
  exact ⟨A2, _, w2, rfl, rfl, o2, g2⟩
end
end Go.Proofs.Ytihgidkkdjmlkaa
