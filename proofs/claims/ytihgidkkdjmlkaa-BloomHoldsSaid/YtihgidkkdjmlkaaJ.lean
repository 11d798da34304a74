/-
  Rows of booleans, the reference's filters, and the contract of the reference's Places.
-/
import Derived.Test.YtihgidkkdjmlkaaI
namespace Go.Proofs.Ytihgidkkdjmlkaa
open Go.ChangeShapes Go.WideShapes Go.ChangeAt Go.RowKit
set_option linter.unusedVariables false

/-- A row of booleans lies in a block (the row may have more room). -/
def Bools (w : World) (g n cap : Nat) (f : Nat → Bool) : Prop :=
  ∃ cur, w.heap[g]? = some (.cells cur 4 (0, 0)) ∧ n ≤ cap ∧ cap ≤ maxLen ∧ cur.size = cap ∧ ∀ i, i < n → cur[i]? = some (.bool (f i))
theorem Bools.lt {w : World} {g n cap : Nat} {f : Nat → Bool} (h : Bools w g n cap f) : g < w.heap.size := by obtain ⟨cur, h, _⟩ := h; exact lt_of_heap h
theorem Bools.cell {w : World} {g n cap : Nat} {f : Nat → Bool} (h : Bools w g n cap f) {i : Nat} (hi : i < n) : w.cell? ⟨g, i, none⟩ = some (.bool (f i)) := by
  obtain ⟨cur, hh, _, _, _, hc⟩ := h; exact (cell_of hh i).trans (hc i hi)
theorem Bools.frozen {w : World} {g n cap : Nat} {f : Nat → Bool} (h : Bools w g n cap f) (i : Nat) : w.frozen? ⟨g, i, none⟩ = false := by
  obtain ⟨cur, hh, _⟩ := h; exact frozen_of hh i
theorem Bools.keep {w w' : World} {g n cap : Nat} {f : Nat → Bool} {S : List Nat} (h : Bools w g n cap f) (q : Keeps S w w') (hg : g ∉ S) : Bools w' g n cap f := by
  obtain ⟨cur, hh, z⟩ := h; exact ⟨cur, q.at hh hg, z⟩
theorem Bools.other {w : World} {g n cap : Nat} {f : Nat → Bool} (h : Bools w g n cap f) {q i : Nat} (hne : g ≠ q) (u : Value) : Bools (w.setCell ⟨q, i, none⟩ u) g n cap f := by
  obtain ⟨cur, hh, z⟩ := h; exact ⟨cur, heap_other hh hne u, z⟩
theorem Bools.alloc {w : World} {g n cap : Nat} {f : Nat → Bool} (h : Bools w g n cap f) (o : Obj) : Bools (w.alloc o) g n cap f := by
  obtain ⟨cur, hh, z⟩ := h; exact ⟨cur, heap_alloc hh o, z⟩
theorem Bools.set {w : World} {g n cap : Nat} {f : Nat → Bool} (h : Bools w g n cap f) (i : Nat) {f' : Nat → Bool} (x : Bool) (hx : f' i = x) (ho : ∀ j, j ≠ i → f' j = f j) : Bools (w.setCell ⟨g, i, none⟩ (.bool x)) g n cap f' := by
  obtain ⟨cur, hh, h1, h2, h3, hc⟩ := h
  refine ⟨_, heap_set hh _, h1, h2, by simpa using h3, fun j hj => ?_⟩
  by_cases hij : i = j
  · subst hij
    have := (Array.getElem?_eq_some_iff.1 (hc i hj)).1
    rw [hx]; simp [this]
  · rw [Array.getElem?_setIfInBounds_ne hij, ho j (Ne.symm hij)]; exact hc j hj
theorem Bools.congr {w : World} {g n cap : Nat} {f f' : Nat → Bool} (h : Bools w g n cap f) (e : ∀ i, i < n → f' i = f i) : Bools w g n cap f' := by
  obtain ⟨cur, hh, h1, h2, h3, hc⟩ := h; exact ⟨cur, hh, h1, h2, h3, fun i hi => by rw [e i hi]; exact hc i hi⟩
theorem Bools.owns {w : World} {g n cap : Nat} {f : Nat → Bool} (h : Bools w g n cap f) : w.ownsRow 0 4 1 (.slice (some ⟨g, 0, none⟩) n cap) n ((List.range n).map fun i => Value.bool (f i)) := by
  obtain ⟨cur, hh, h1, h2, h3, hc⟩ := h
  refine ⟨by simp, .inr ⟨g, cap, cur, rfl, Nat.zero_le _, hh, h1, h2, by omega, ?_⟩⟩
  apply List.ext_getElem?
  intro i
  by_cases hi : i < n
  · rw [List.getElem?_take_of_lt (by omega), Array.getElem?_toList, hc i hi]; simp [hi]
  · rw [List.getElem?_eq_none (by simp; omega), List.getElem?_eq_none (by simp; omega)]
theorem Bools.of_owns {w : World} {g n cap : Nat} {f : Nat → Bool} {B : Nat} (h : w.ownsRow B 4 1 (.slice (some ⟨g, 0, none⟩) n cap) n ((List.range n).map fun i => Value.bool (f i))) : Bools w g n cap f := by
  obtain ⟨_, ⟨h, _⟩ | ⟨g', c, cur, h, hb, hh, hn, hm, hs, ht⟩⟩ := h
  · cases h
  · obtain ⟨rfl, rfl⟩ : g = g' ∧ cap = c := by simpa using h
    refine ⟨cur, hh, hn, hm, by omega, fun i hi => ?_⟩
    have e : (cur.toList.take (n * 1))[i]? = ((List.range n).map fun i => Value.bool (f i))[i]? := by rw [ht]
    rw [List.getElem?_take_of_lt (by omega)] at e
    rw [← Array.getElem?_toList, e]; simp [hi]


theorem Bools.below {w w' : World} {g n cap : Nat} {f : Nat → Bool} (h : Bools w g n cap f) (k : Below w.heap.size w w') : Bools w' g n cap f := h.keep (Keeps.of_below (S := []) k) (by simp)
/-- The reference's filter. -/
def refV (K : Bl) (r c : Nat) : Value := .agg #[.int .i64 (K.h : Nat), .int .u64 K.seed, .slice (some ⟨r, 0, none⟩) K.n c]
def refC (K : Bl) (r c : Nat) : Array Value := #[.int .i64 (K.h : Nat), .int .u64 K.seed, .slice (some ⟨r, 0, none⟩) K.n c]
theorem step_even (S : Int) (h : S.toNat / 4294967296 % 2 = 0) : stepS S = S.toNat / 4294967296 + 1 := by unfold stepS; rw [or_one, if_pos h]
theorem step_odd (S : Int) (h : ¬ S.toNat / 4294967296 % 2 = 0) : stepS S = S.toNat / 4294967296 := by unfold stepS; rw [or_one, if_neg h]
theorem plcR_law (K : Bl) (key : List UInt8) (i : Nat) {S st : Int} (hS : Word S) (h : S = K.sum key) (hst : ((stepS S : Nat) : Int) = st) : (IntKind.u64.wrap (S % 4294967296 + IntKind.u64.wrap ((i : Int) * st))).tmod (K.n : Int) = ((K.plc key i : Nat) : Int) := by
  obtain ⟨h0, h1⟩ := hS
  rw [Int.tmod_eq_emod_of_nonneg (wrap_word _).1]
  unfold Bl.plc plS
  rw [← h, ← hst, IntKind.wrap_u64, IntKind.wrap_u64, Int.natCast_emod, Int.natCast_emod, Int.natCast_add, Int.natCast_mul]
  congr 1
  have e1 : S % 4294967296 = ((lowS S : Nat) : Int) := by unfold lowS; omega
  rw [e1]
  generalize (i : Int) * ((stepS S : Nat) : Int) = x
  omega
/-- What the reference's Places keeps at each round. -/
structure PlrI (w : World) (N r c : Nat) (K : Bl) (key : List UInt8) (i : Nat) (A : Option Addr) (d : Nat) (W : World) : Prop where
  bel : Below N w W
  own : W.ownsRow N 3 1 (.slice A i d) i ((plcsN K key i).map (Value.int .i64))
  box : W.heap[N]? = some (.cells (refC K r c) 25 (0, 0))
theorem PlrI.next {w W V : World} {N r c i d d2 : Nat} {K : Bl} {key : List UInt8} {A A2 : Option Addr} (z : PlrI w N r c K key i A d W) (hN : N ≤ W.heap.size) (o : V.ownsRow N 3 1 (.slice A2 (i + 1) d2) (i + 1) ((plcsN K key i ++ [((K.plc key i : Nat) : Int)]).map (Value.int .i64))) (g : W.grownBy V (Value.slice A i d).ownBlock) :
    PlrI w N r c K key (i + 1) A2 d2 V :=
  ⟨⟨g.os.trans z.bel.os, g.tape.trans z.bel.tape, g.output.trans z.bel.output, Nat.le_trans z.bel.size g.size, fun k hk => (g.block k (by omega) (fun e => by have := own_block z.own k e.symm; omega)).trans (z.bel.block k hk)⟩,
    by rw [plcsN_succ]; exact o, (g.block N (lt_of_heap z.box) (fun e => own_ne z.own z.box (by decide) e.symm)).trans z.box⟩
set_option maxRecDepth 100000 in
theorem rplaces_is {w : World} {K : Bl} {r c : Nat} (hK : K.Ok) (key : ByteArray) (hs : key.size ≤ maxLen) :
    Calls Try.prog 14 #[refV K r c, .string key] w fun e w' => ∃ A d, e = .returned (.slice A K.h d) ∧ w'.ownsRow w.heap.size 3 1 (.slice A K.h d) K.h ((plcsN K key.data.toList K.h).map (Value.int .i64)) ∧ Below w.heap.size w w' := by
  have hh := hK.hash
  have hseed := hK.seed
  have h64 := hK.n64
  have hS := sumI_word K.seed key.data.toList
  have hsum : sumI K.seed false key.data.toList = K.sum key.data.toList := rfl
  generalize hSS : sumI K.seed false key.data.toList = S at *
  obtain ⟨hS0, hS1⟩ := hS
  obtain ⟨h641, h642, h643⟩ := h64
  obtain ⟨hh1, hh2⟩ := hh
  obtain ⟨b0, hb0⟩ : ∃ b0, S.toNat / 4294967296 = b0 := ⟨_, rfl⟩
  have e2 : S / 4294967296 = (b0 : Int) := by omega
  have hb1 : b0 < 4294967296 := by omega
  have E2 := Lib.hid e2
  have hev := step_even S
  have hod := step_odd S
  rw [hb0] at hev hod
  have HSS := Lib.hid hSS
  have Hsum := Lib.hid hsum
  have z0 : PlrI w w.heap.size r c K key.data.toList 0 none 0 (w.alloc (.cells (refC K r c) 25)) := ⟨(Below.refl _ _).alloc (Nat.le_refl _) _, World.ownsRow_nil _ _ _ _, heap_new rfl⟩
  clear hSS hsum h643 hb0
  unfold refV
  by_cases hp : b0 % 2 = 0
  · obtain hst := hev hp
    have hp1 : (b0 : Int) % 2 = 0 := by omega
    have HE := Lib.hid hst
    clear hev hod hst
    go_enter Try.func14, Try.ntmps14
    go_upto_region 1 with fail
    refine wp_seen _ z0 ?_
    clear z0
    rintro W z
    have m0 : W.cell? ⟨w.heap.size, 0, none⟩ = some (.int .i64 (K.h : Nat)) := cell_of z.box 0
    have m1 : W.cell? ⟨w.heap.size, 1, none⟩ = some (.int .u64 K.seed) := cell_of z.box 1
    generalize hN : w.heap.size = N at *
    have HN := Lib.hid hN
    clear hN
    go_upto_region 5 with (first | (go_at_call 34; refine (refsum_any _ hseed false key hs _).mono ?_; rintro e w1 ⟨rfl, rfl⟩; rw [HSS.out]))
    clear m0 m1 e2 hp1
    go_wp2_with fail
    go_loopw [8, 9] (fun v x wr => ∃ i A d, i ≤ K.h ∧ v = .slice A i d ∧ x = .int .i64 (i : Nat) ∧ PlrI w N r c K key.data.toList i A d wr) (fun _ x _ => K.h - (intOf x).toNat)
    case atStart => exact ⟨0, none, 0, Nat.zero_le _, rfl, rfl, z⟩
    case round =>
      obtain ⟨i, A, d, hi, rfl, rfl, zr⟩ := hrel
      clear z
      have m0 : wr.cell? ⟨N, 0, none⟩ = some (.int .i64 (K.h : Nat)) := cell_of zr.box 0
      have m2 : wr.cell? ⟨N, 2, none⟩ = some (.slice (some ⟨r, 0, none⟩) K.n c) := cell_of zr.box 2
      by_cases hlt : i < K.h
      · have hpl := plcR_law K key.data.toList i (S := S) (st := (b0 : Int) + 1) ⟨hS0, hS1⟩ Hsum.out (by rw [HE.out]; omega)
        have hpb := K.plc_lt hK key.data.toList i
        obtain ⟨v2, w2, r2, o2, g2⟩ := app_int (i := ((K.plc key.data.toList i : Nat) : Int)) zr.own (HN.out ▸ zr.bel.size) (by omega) 36
        obtain ⟨A2, d2, rfl⟩ := own_shape o2
        have z2 := zr.next (HN.out ▸ zr.bel.size) o2 g2
        go_wp2_with (at_builtin; refine Lib.wpList_append_run _ rfl _ _ _ _ rfl _ _ rfl rfl _ _ r2 ?_)
        go_roundw
        case rel => exact ⟨i + 1, A2, d2, by omega, rfl, by go_num, z2⟩
        all_goals (simp [intOf]; omega)
      · obtain rfl : K.h = i := by omega
        go_wp2_with fail
        go_ret
        exact ⟨A, d, rfl, by rw [HN.out]; exact zr.own, by rw [HN.out]; exact zr.bel⟩
  · obtain hst := hod hp
    have hp1 : (b0 : Int) % 2 = 1 := by omega
    have HE := Lib.hid hst
    clear hev hod hst hp
    go_enter Try.func14, Try.ntmps14
    go_upto_region 1 with fail
    refine wp_seen _ z0 ?_
    clear z0
    rintro W z
    have m0 : W.cell? ⟨w.heap.size, 0, none⟩ = some (.int .i64 (K.h : Nat)) := cell_of z.box 0
    have m1 : W.cell? ⟨w.heap.size, 1, none⟩ = some (.int .u64 K.seed) := cell_of z.box 1
    generalize hN : w.heap.size = N at *
    have HN := Lib.hid hN
    clear hN
    go_upto_region 5 with (first | (go_at_call 34; refine (refsum_any _ hseed false key hs _).mono ?_; rintro e w1 ⟨rfl, rfl⟩; rw [HSS.out]))
    clear m0 m1 e2 hp1
    go_wp2_with fail
    go_loopw [8, 9] (fun v x wr => ∃ i A d, i ≤ K.h ∧ v = .slice A i d ∧ x = .int .i64 (i : Nat) ∧ PlrI w N r c K key.data.toList i A d wr) (fun _ x _ => K.h - (intOf x).toNat)
    case atStart => exact ⟨0, none, 0, Nat.zero_le _, rfl, rfl, z⟩
    case round =>
      obtain ⟨i, A, d, hi, rfl, rfl, zr⟩ := hrel
      clear z
      have m0 : wr.cell? ⟨N, 0, none⟩ = some (.int .i64 (K.h : Nat)) := cell_of zr.box 0
      have m2 : wr.cell? ⟨N, 2, none⟩ = some (.slice (some ⟨r, 0, none⟩) K.n c) := cell_of zr.box 2
      by_cases hlt : i < K.h
      · have hpl := plcR_law K key.data.toList i (S := S) (st := S / 4294967296) ⟨hS0, hS1⟩ Hsum.out (by rw [HE.out]; exact E2.out.symm)
        have hpb := K.plc_lt hK key.data.toList i
        obtain ⟨v2, w2, r2, o2, g2⟩ := app_int (i := ((K.plc key.data.toList i : Nat) : Int)) zr.own (HN.out ▸ zr.bel.size) (by omega) 36
        obtain ⟨A2, d2, rfl⟩ := own_shape o2
        have z2 := zr.next (HN.out ▸ zr.bel.size) o2 g2
        go_wp2_with (at_builtin; refine Lib.wpList_append_run _ rfl _ _ _ _ rfl _ _ rfl rfl _ _ r2 ?_)
        go_roundw
        case rel => exact ⟨i + 1, A2, d2, by omega, rfl, by go_num, z2⟩
        all_goals (simp [intOf]; omega)
      · obtain rfl : K.h = i := by omega
        go_wp2_with fail
        go_ret
        exact ⟨A, d, rfl, by rw [HN.out]; exact zr.own, by rw [HN.out]; exact zr.bel⟩
end Go.Proofs.Ytihgidkkdjmlkaa
