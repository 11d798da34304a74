/-
  The contracts of the reference's Has and Add.
-/
import Derived.Test.YtihgidkkdjmlkaaJ
namespace Go.Proofs.Ytihgidkkdjmlkaa
open Go.ChangeShapes Go.WideShapes Go.ChangeAt Go.RowKit
set_option linter.unusedVariables false

theorem app_bools {w : World} {r n c : Nat} {f : Nat → Bool} (s : Bools w r n c f) (h0 : 0 < n) (hn : n ≤ 1048576) (ty : TypeId) :
    ∃ r' c' w', (Builtin.append_ #[23, 23] ty #[.slice none 0 0, .slice (some ⟨r, 0, none⟩) n c]).run Try.prog w = .ok (.slice (some ⟨r', 0, none⟩) n c') w' ∧ Bools w' r' n c' f ∧ Below w.heap.size w w' ∧ w.heap.size ≤ r' := by
  obtain ⟨i0, hi, hz, hs, hby⟩ := info_parts info4
  obtain ⟨v', w', hr, ho, hg, hnil⟩ := run_append_own_wide (P := Try.prog) (w := w) w.heap.size 23 ty 4 i0 _ 1 1 Try.underlying23 hi hz hs hby rfl (by decide) (.slice none 0 0) 0 [] (World.ownsRow_nil _ _ _ _) ⟨r, 0, none⟩ n c ((List.range n).map fun i => Value.bool (f i)) (by simp) (s.owns.cells rfl) (fun u hu => by obtain ⟨i, _, rfl⟩ := List.mem_map.1 hu; rfl) (by unfold maxLen; omega) (by omega) (Nat.le_refl _)
  rw [Nat.zero_add, List.nil_append] at ho
  obtain ⟨A, c', rfl⟩ := own_shape ho
  obtain ⟨r', rfl, hr'⟩ : ∃ r', A = some ⟨r', 0, none⟩ ∧ w.heap.size ≤ r' := by
    obtain ⟨_, ⟨q, q0⟩ | ⟨g, c2, cur, q, hb, _⟩⟩ := ho
    · omega
    · exact ⟨g, by simpa using congrArg (fun v => match v with | .slice a _ _ => a | _ => none) q, hb⟩
  exact ⟨r', c', w', hr, Bools.of_owns ho, ⟨hg.os, hg.tape, hg.output, hg.size, fun k hk => hg.block k hk (by simp [Value.ownBlock])⟩, hr'⟩
theorem plcsN_get (K : Bl) (key : List UInt8) {n i : Nat} (h : i < n) : (plcsN K key n)[i]? = some ((K.plc key i : Nat) : Int) := by
  unfold plcsN
  rw [List.getElem?_map, List.getElem?_range h]; rfl
theorem own_int_some {w : World} {B n c : Nat} {A : Option Addr} {xs : List Value} (own : w.ownsRow B 3 1 (.slice A n c) n xs) (h : 0 < n) : ∃ g, A = some ⟨g, 0, none⟩ ∧ B ≤ g := by
  obtain ⟨hl, ⟨q, q0⟩ | ⟨g, c2, cur, q, hb, _⟩⟩ := own
  · omega
  · exact ⟨g, by simpa using congrArg (fun v => match v with | .slice a _ _ => a | _ => none) q, hb⟩
theorem own_int_cell {w : World} {B g n c i : Nat} {L : List Int} {x : Int} (own : w.ownsRow B 3 1 (.slice (some ⟨g, 0, none⟩) n c) n (L.map (Value.int .i64))) (hx : L[i]? = some x) : w.cell? ⟨g, i, none⟩ = some (.int .i64 x) := by
  obtain ⟨hl, ⟨h, h0⟩ | ⟨g', c2, cur, h, hb, hh, hn, hmx, hs, ht⟩⟩ := own
  · cases h
  obtain ⟨rfl, rfl⟩ : g = g' ∧ c = c2 := by simpa using h
  rw [cell_of hh]
  have h1 : (L.map (Value.int .i64))[i]? = some (.int .i64 x) := by rw [List.getElem?_map, hx]; rfl
  have hi : i < n := by
    have := (List.getElem?_eq_some_iff.1 h1).1
    rw [hl] at this; omega
  rw [← ht, List.getElem?_take_of_lt (by omega)] at h1
  simpa using h1
theorem own_below {w W : World} {base B : Nat} {e : TypeId} {size : Nat} {v : Value} {n : Nat} {xs : List Value} (h : w.ownsRow base e size v n xs) (k : Below B w W) (hB : w.heap.size ≤ B) : W.ownsRow base e size v n xs :=
  ⟨h.1, h.2.imp id fun ⟨g, c, cur, q1, q2, hh, q⟩ => ⟨g, c, cur, q1, q2, (k.block g (by have := lt_of_heap hh; omega)).trans hh, q⟩⟩
theorem own_mono {w : World} {base base' : Nat} {e : TypeId} {size : Nat} {v : Value} {n : Nat} {xs : List Value} (h : w.ownsRow base e size v n xs) (hb : base' ≤ base) : w.ownsRow base' e size v n xs :=
  ⟨h.1, h.2.imp id fun ⟨g, c, cur, q1, q2, q⟩ => ⟨g, c, cur, q1, Nat.le_trans hb q2, q⟩⟩
theorem Bl.has_false {K : Bl} {key : List UInt8} {i : Nat} (hi : i < K.h) (h : K.b (K.plc key i) = false) : K.has key = false := by
  rw [← K.hasN_all]
  unfold Bl.hasN
  rw [List.all_eq_false]
  exact ⟨i, by simpa using hi, by simp [h]⟩
/-- What the reference's Has keeps. -/
structure HrI (w : World) (N r c g d : Nat) (K : Bl) (key : List UInt8) (W : World) : Prop where
  bel : Below N w W
  plc : W.ownsRow N 3 1 (.slice (some ⟨g, 0, none⟩) K.h d) K.h ((plcsN K key K.h).map (Value.int .i64))
  box : W.heap[N]? = some (.cells (refC K r c) 25 (0, 0))
  set : Bools W r K.n c K.b
theorem HrI.drewN {w : World} {N r c g d : Nat} {K : Bl} {key : List UInt8} {W : World} (z : HrI w N r c g d K key W) (n : Nat) : HrI w N r c g d K key (W.drewN n) := ⟨⟨z.bel.os, z.bel.tape, z.bel.output, z.bel.size, z.bel.block⟩, z.plc, z.box, z.set⟩
set_option maxRecDepth 100000 in
theorem rhas_is {w : World} {K : Bl} {r c : Nat} (s : Bools w r K.n c K.b) (hK : K.Ok) (key : ByteArray) (hs : key.size ≤ maxLen) :
    Calls Try.prog 32 #[refV K r c, .string key] w fun e w' => e = .returned (.bool (K.has key.data.toList)) ∧ Below w.heap.size w w' := by
  have hh := hK.hash
  obtain ⟨hh1, hh2⟩ := hh
  have h64 := hK.n64
  obtain ⟨h641, h642, h643⟩ := h64
  have s1 : Bools (w.alloc (.cells (refC K r c) 25)) r K.n c K.b := s.alloc _
  have b1 : Below w.heap.size w (w.alloc (.cells (refC K r c) 25)) := (Below.refl _ _).alloc (Nat.le_refl _) _
  have x1 : (w.alloc (.cells (refC K r c) 25)).heap[w.heap.size]? = some (.cells (refC K r c) 25 (0, 0)) := heap_new rfl
  have z0 : Below w.heap.size w (w.alloc (.cells (refC K r c) 25)) ∧ (w.alloc (.cells (refC K r c) 25)).heap[w.heap.size]? = some (.cells (refC K r c) 25 (0, 0)) ∧ Bools (w.alloc (.cells (refC K r c) 25)) r K.n c K.b := ⟨b1, x1, s1⟩
  clear s1 b1 x1 h643
  unfold refV
  go_enter Try.func32, Try.ntmps32
  go_upto_region 1 with fail
  refine wp_seen (fun W => Below w.heap.size w W ∧ W.heap[w.heap.size]? = some (.cells (refC K r c) 25 (0, 0)) ∧ Bools W r K.n c K.b) z0 ?_
  clear z0
  rintro W ⟨b1, x1, s1⟩
  have m0 : W.cell? ⟨w.heap.size, 0, none⟩ = some (.int .i64 (K.h : Nat)) := cell_of x1 0
  have m1 : W.cell? ⟨w.heap.size, 1, none⟩ = some (.int .u64 K.seed) := cell_of x1 1
  have m2 : W.cell? ⟨w.heap.size, 2, none⟩ = some (.slice (some ⟨r, 0, none⟩) K.n c) := cell_of x1 2
  generalize hN : w.heap.size = N at *
  have HN := Lib.hid hN
  clear hN
  go_upto_region 2 with (first | (go_at_call 14; refine (rplaces_is (K := K) (r := r) (c := c) hK key hs).mono ?_; rintro e w1 ⟨A, d, rfl, o1, b2⟩))
  obtain ⟨g, rfl, hg⟩ := own_int_some o1 (by omega)
  have hNW : N ≤ W.heap.size := HN.out ▸ b1.size
  have z : HrI w N r c g d K key.data.toList w1 := ⟨b1.trans (b2.mono hNW), own_mono o1 hNW, (b2.block N (lt_of_heap x1)).trans x1, s1.below b2⟩
  clear m0 m1 m2 o1 b2 x1 s1 b1 hg
  go_wp2_with fail
  go_loopw [6] (fun x wr => ∃ i : Nat, i ≤ K.h ∧ x = .int .i64 (i : Nat) ∧ K.hasN key.data.toList i = true ∧ HrI w N r c g d K key.data.toList wr) (fun x _ => K.h - (intOf x).toNat)
  case atStart => exact ⟨0, Nat.zero_le _, rfl, rfl, z⟩
  case round =>
    obtain ⟨i, hi, rfl, hh, zr⟩ := hrel
    clear z
    have Hh := Lib.hid hh
    clear hh
    by_cases hlt : i < K.h
    · have hpb := K.plc_lt hK key.data.toList i
      have m2 : wr.cell? ⟨N, 2, none⟩ = some (.slice (some ⟨r, 0, none⟩) K.n c) := cell_of zr.box 2
      have mp := own_int_cell zr.plc (plcsN_get K key.data.toList hlt)
      have mb := zr.set.cell hpb
      have hsucc := K.hasN_succ key.data.toList i
      rw [Hh.out, Bool.true_and] at hsucc
      have HF := Lib.hid (show K.b (K.plc key.data.toList i) = false → K.has key.data.toList = false from fun q => Bl.has_false hlt q)
      generalize K.plc key.data.toList i = pl at *
      have f1 : (0 : Int) ≤ (i : Int) := by omega
      have f2 : (i : Int) < (K.h : Int) := by omega
      have f3 : (0 : Int) ≤ (pl : Int) := by omega
      have f4 : (pl : Int) < (K.n : Int) := by omega
      have HS := Lib.hid hsucc
      clear hsucc
      cases hb : K.b pl with
      | true =>
        rw [hb] at mb
        have HB := Lib.hid hb
        clear hb
        go_wp2_with fail
        go_quiet (fail)
        go_wp2_with fail
        go_roundw
        case rel => exact ⟨i + 1, by omega, by go_num, by rw [HS.out]; exact HB.out, zr.drewN _⟩
        all_goals (simp [intOf]; omega)
      | false =>
        rw [hb] at mb
        have HB := Lib.hid hb
        clear hb
        go_wp2_with fail
        go_quiet (fail)
        go_wp2_with fail
        go_ret
        exact ⟨ret_bool (HF.out HB.out).symm, by rw [HN.out]; exact (zr.drewN _).bel⟩
    · obtain rfl : K.h = i := by omega
      go_wp2_with fail
      go_ret
      exact ⟨ret_bool (by rw [← K.hasN_all, Hh.out]), by rw [HN.out]; exact zr.bel⟩
/-- What the reference's Add keeps. -/
structure ArI (w : World) (N r c g d : Nat) (K : Bl) (key : List UInt8) (i : Nat) (W : World) : Prop where
  bel : Below N w W
  plc : W.ownsRow N 3 1 (.slice (some ⟨g, 0, none⟩) K.h d) K.h ((plcsN K key K.h).map (Value.int .i64))
  box : W.heap[N]? = some (.cells (refC K r c) 25 (0, 0))
  res : W.heap[N + 1]? = some (.cells #[.int .i64 0, .int .u64 0, .slice none 0 0] 25 (0, 0))
  set : Bools W r K.n c (K.addN key i).b
  here : N ≤ r
theorem Bools.ne_of {W : World} {g n cap p : Nat} {f : Nat → Bool} {cs : Array Value} {t : TypeId} {fr : Nat × Nat} (h : Bools W g n cap f) (hp : W.heap[p]? = some (.cells cs t fr)) (ht : t ≠ 4) : p ≠ g := fun e => by
  obtain ⟨cur, hh, _⟩ := h
  rw [← e, hp] at hh
  simp at hh
  exact ht hh.2.1
theorem ArI.next {w W : World} {N r c g d i : Nat} {K : Bl} {key : List UInt8} (z : ArI w N r c g d K key i W) : ArI w N r c g d K key (i + 1) ((W.setCell ⟨r, K.plc key i, none⟩ (.bool true)).drew) := by
  have n1 := z.set.ne_of z.box (by decide)
  have n2 := z.set.ne_of z.res (by decide)
  refine ⟨?_, ?_, heap_drew (heap_other z.box n1 _), heap_drew (heap_other z.res n2 _), ?_, z.here⟩
  · have := below_put z.bel (i := K.plc key i) z.here (.bool true)
    exact ⟨this.os, this.tape, this.output, this.size, this.block⟩
  · obtain ⟨cur, hh, _⟩ := z.set
    exact own_other z.plc (own_ne z.plc hh (by decide)) _
  · have := z.set.set (K.plc key i) (f' := (K.addN key (i + 1)).b) true (by rw [Bl.addN_succ]; unfold setB; simp) (fun j hj => by rw [Bl.addN_succ]; unfold setB; simp [hj])
    exact this
/-- A result of the reference's. -/
theorem res_put {w W : World} {N r c n h : Nat} {seed : Int} {f : Nat → Bool} (b : Below N w W) (x : W.heap[N + 1]? = some (.cells #[.int .i64 0, .int .u64 0, .slice none 0 0] 25 (0, 0))) (s : Bools W r n c f) (hr : N ≤ r) :
    Below N w (((W.setCell ⟨N + 1, 0, none⟩ (.int .i64 (h : Nat))).setCell ⟨N + 1, 1, none⟩ (.int .u64 seed)).setCell ⟨N + 1, 2, none⟩ (.slice (some ⟨r, 0, none⟩) n c)) ∧
    (((W.setCell ⟨N + 1, 0, none⟩ (.int .i64 (h : Nat))).setCell ⟨N + 1, 1, none⟩ (.int .u64 seed)).setCell ⟨N + 1, 2, none⟩ (.slice (some ⟨r, 0, none⟩) n c)).heap[N + 1]? = some (.cells #[.int .i64 (h : Nat), .int .u64 seed, .slice (some ⟨r, 0, none⟩) n c] 25 (0, 0)) ∧
    Bools (((W.setCell ⟨N + 1, 0, none⟩ (.int .i64 (h : Nat))).setCell ⟨N + 1, 1, none⟩ (.int .u64 seed)).setCell ⟨N + 1, 2, none⟩ (.slice (some ⟨r, 0, none⟩) n c)) r n c f ∧ N ≤ r := by
  have hne := s.ne_of x (by decide)
  exact ⟨below_put (below_put (below_put b (by omega) _) (by omega) _) (by omega) _, heap_set (heap_set (heap_set x _) _) _, ((s.other hne.symm _).other hne.symm _).other hne.symm _, hr⟩
theorem refV_get (K : Bl) (r c : Nat) : Value.agg (refC K r c) = refV K r c := rfl
set_option maxRecDepth 100000 in
set_option maxHeartbeats 1000000 in
theorem radd_is {w : World} {K : Bl} {r c : Nat} (s : Bools w r K.n c K.b) (hK : K.Ok) (key : ByteArray) (hs : key.size ≤ maxLen) :
    Calls Try.prog 18 #[refV K r c, .string key] w fun e w' => ∃ r' c', e = .returned (.tuple #[refV K r' c', .bool (!K.has key.data.toList)]) ∧ Bools w' r' K.n c' (K.add key.data.toList).b ∧ Below w.heap.size w w' ∧ w.heap.size ≤ r' := by
  have hh := hK.hash
  obtain ⟨hh1, hh2⟩ := hh
  have h64 := hK.n64
  obtain ⟨h641, h642, h643⟩ := h64
  clear h643
  have z0 : Below w.heap.size w ((w.alloc (.cells (refC K r c) 25)).alloc (.cells #[.int .i64 0, .int .u64 0, .slice none 0 0] 25)) ∧ ((w.alloc (.cells (refC K r c) 25)).alloc (.cells #[.int .i64 0, .int .u64 0, .slice none 0 0] 25)).heap[w.heap.size]? = some (.cells (refC K r c) 25 (0, 0)) ∧ ((w.alloc (.cells (refC K r c) 25)).alloc (.cells #[.int .i64 0, .int .u64 0, .slice none 0 0] 25)).heap[w.heap.size + 1]? = some (.cells #[.int .i64 0, .int .u64 0, .slice none 0 0] 25 (0, 0)) ∧ Bools ((w.alloc (.cells (refC K r c) 25)).alloc (.cells #[.int .i64 0, .int .u64 0, .slice none 0 0] 25)) r K.n c K.b :=
    ⟨((Below.refl _ _).alloc (Nat.le_refl _) _).alloc (by simp) _, heap_alloc (heap_new rfl) _, heap_new (by simp), (s.alloc _).alloc _⟩
  unfold refV
  go_enter Try.func18, Try.ntmps18
  go_upto_region 1 with fail
  refine wp_seen (fun W => Below w.heap.size w W ∧ W.heap[w.heap.size]? = some (.cells (refC K r c) 25 (0, 0)) ∧ W.heap[w.heap.size + 1]? = some (.cells #[.int .i64 0, .int .u64 0, .slice none 0 0] 25 (0, 0)) ∧ Bools W r K.n c K.b) z0 ?_
  clear z0
  rintro W ⟨b1, x1, y1, s1⟩
  have m0 : W.cell? ⟨w.heap.size, 0, none⟩ = some (.int .i64 (K.h : Nat)) := cell_of x1 0
  have m1 : W.cell? ⟨w.heap.size, 1, none⟩ = some (.int .u64 K.seed) := cell_of x1 1
  have m2 : W.cell? ⟨w.heap.size, 2, none⟩ = some (.slice (some ⟨r, 0, none⟩) K.n c) := cell_of x1 2
  generalize hN : w.heap.size = N at *
  have HN := Lib.hid hN
  clear hN
  have hNW : N ≤ W.heap.size := HN.out ▸ b1.size
  have ha := rhas_is (w := W) (r := r) (c := c) s1 hK key hs
  have HA := Lib.hid ha
  clear ha
  go_upto_region 2 with (first | (go_at_call 32; refine HA.out.mono ?_; rintro e w1 ⟨rfl, b2⟩))
  have x2 := (b2.block N (lt_of_heap x1)).trans x1
  have y2 := (b2.block (N + 1) (lt_of_heap y1)).trans y1
  obtain ⟨r', c', w2, q2, s2, b3, hr'⟩ := app_bools (s1.below b2) (by omega) h642 23
  have x3 := (b3.block N (lt_of_heap x2)).trans x2
  have y3 := (b3.block (N + 1) (lt_of_heap y2)).trans y2
  have k2 : w1.cell? ⟨N, 2, none⟩ = some (.slice (some ⟨r, 0, none⟩) K.n c) := cell_of x2 2
  have k3 : w2.cell? ⟨N, 2, none⟩ = some (.slice (some ⟨r, 0, none⟩) K.n c) := cell_of x3 2
  have f3 := frozen_of x3 2
  have hN1 : N ≤ w1.heap.size := Nat.le_trans hNW b2.size
  have z1 : Below N w (w2.setCell ⟨N, 2, none⟩ (.slice (some ⟨r', 0, none⟩) K.n c')) ∧ (w2.setCell ⟨N, 2, none⟩ (.slice (some ⟨r', 0, none⟩) K.n c')).heap[N]? = some (.cells (refC K r' c') 25 (0, 0)) ∧ (w2.setCell ⟨N, 2, none⟩ (.slice (some ⟨r', 0, none⟩) K.n c')).heap[N + 1]? = some (.cells #[.int .i64 0, .int .u64 0, .slice none 0 0] 25 (0, 0)) ∧ Bools (w2.setCell ⟨N, 2, none⟩ (.slice (some ⟨r', 0, none⟩) K.n c')) r' K.n c' K.b ∧ N ≤ r' :=
    ⟨below_put ((b1.trans (b2.mono hNW)).trans (b3.mono hN1)) (Nat.le_refl _) _, heap_set x3 _, heap_other y3 (by omega) _, s2.other (s2.ne_of x3 (by decide)).symm _, by omega⟩
  go_upto_region 3 with (at_builtin; refine Lib.wpList_append_run _ rfl _ _ _ _ rfl _ _ rfl rfl _ _ q2 ?_)
  refine wp_seen (fun W => Below N w W ∧ W.heap[N]? = some (.cells (refC K r' c') 25 (0, 0)) ∧ W.heap[N + 1]? = some (.cells #[.int .i64 0, .int .u64 0, .slice none 0 0] 25 (0, 0)) ∧ Bools W r' K.n c' K.b ∧ N ≤ r') z1 ?_
  clear z1 q2 s2 b3 hr' x3 y3 k2 k3 f3 hN1 x2 y2 b2 m0 m1 m2 x1 y1 s1 b1 hNW
  rintro V ⟨b1, x1, y1, s1, hr⟩
  have hNV : N ≤ V.heap.size := HN.out ▸ b1.size
  have m0 : V.cell? ⟨N, 0, none⟩ = some (.int .i64 (K.h : Nat)) := cell_of x1 0
  have m1 : V.cell? ⟨N, 1, none⟩ = some (.int .u64 K.seed) := cell_of x1 1
  have m2 : V.cell? ⟨N, 2, none⟩ = some (.slice (some ⟨r', 0, none⟩) K.n c') := cell_of x1 2
  go_upto_region 4 with (first | (go_at_call 14; refine (rplaces_is (K := K) (r := r') (c := c') hK key hs).mono ?_; rintro e w1 ⟨A, d, rfl, o1, b2⟩))
  obtain ⟨g, rfl, hg⟩ := own_int_some o1 (by omega)
  have z : ArI w N r' c' g d K key.data.toList 0 w1 := ⟨b1.trans (b2.mono hNV), own_mono o1 hNV, (b2.block N (lt_of_heap x1)).trans x1, (b2.block (N + 1) (lt_of_heap y1)).trans y1, s1.below b2, hr⟩
  clear m0 m1 m2 o1 b2 x1 y1 s1 b1 hg hNV
  go_wp2_with fail
  go_loopw [8] (fun x wr => ∃ i : Nat, i ≤ K.h ∧ x = .int .i64 (i : Nat) ∧ ArI w N r' c' g d K key.data.toList i wr) (fun x _ => K.h - (intOf x).toNat)
  case atStart => exact ⟨0, Nat.zero_le _, rfl, z⟩
  case round =>
    obtain ⟨i, hi, rfl, zr⟩ := hrel
    clear z
    by_cases hlt : i < K.h
    · have hpb := K.plc_lt hK key.data.toList i
      have m2 : wr.cell? ⟨N, 2, none⟩ = some (.slice (some ⟨r', 0, none⟩) K.n c') := cell_of zr.box 2
      have mp := own_int_cell zr.plc (plcsN_get K key.data.toList hlt)
      have mb := zr.set.cell hpb
      have mf := zr.set.frozen (K.plc key.data.toList i)
      have zn := zr.next
      generalize K.plc key.data.toList i = pl at *
      have f1 : (0 : Int) ≤ (i : Int) := by omega
      have f2 : (i : Int) < (K.h : Int) := by omega
      have f3 : (0 : Int) ≤ (pl : Int) := by omega
      have f4 : (pl : Int) < (K.n : Int) := by omega
      go_wp2_with fail
      go_region
      all_goals go_wp2_with fail
      all_goals go_roundw
      all_goals first | (case rel => exact ⟨i + 1, by omega, by go_num, zn⟩) | skip
      all_goals (simp [intOf]; omega)
    · obtain rfl : K.h = i := by omega
      have m0 : wr.cell? ⟨N, 0, none⟩ = some (.int .i64 (K.h : Nat)) := cell_of zr.box 0
      have m1 : wr.cell? ⟨N, 1, none⟩ = some (.int .u64 K.seed) := cell_of zr.box 1
      have m2 : wr.cell? ⟨N, 2, none⟩ = some (.slice (some ⟨r', 0, none⟩) K.n c') := cell_of zr.box 2
      have n0 : wr.cell? ⟨N + 1, 0, none⟩ = some (.int .i64 0) := cell_of zr.res 0
      have n1 : wr.cell? ⟨N + 1, 1, none⟩ = some (.int .u64 0) := cell_of zr.res 1
      have n2 : wr.cell? ⟨N + 1, 2, none⟩ = some (.slice none 0 0) := cell_of zr.res 2
      have g0 := frozen_of zr.res 0
      have g1 := frozen_of zr.res 1
      have g2 := frozen_of zr.res 2
      go_wp2_with fail
      refine post_seen (fun W => Below N w W ∧ W.heap[N + 1]? = some (.cells (refC K r' c') 25 (0, 0)) ∧ Bools W r' K.n c' (K.add key.data.toList).b ∧ N ≤ r') (res_put zr.bel zr.res zr.set zr.here) ?_
      rintro V ⟨b9, x9, s9, hr9⟩
      have c0 : V.cell? ⟨N + 1, 0, none⟩ = some (.int .i64 (K.h : Nat)) := cell_of x9 0
      have c1 : V.cell? ⟨N + 1, 1, none⟩ = some (.int .u64 K.seed) := cell_of x9 1
      have c2 : V.cell? ⟨N + 1, 2, none⟩ = some (.slice (some ⟨r', 0, none⟩) K.n c') := cell_of x9 2
      exact bodyPost_ret (v := .tuple #[.agg #[.int .i64 (K.h : Nat), .int .u64 K.seed, .slice (some ⟨r', 0, none⟩) K.n c'], .bool (!K.has key.data.toList)]) (by simp [results, Try.results18, go_sem, c0, c1, c2]) rfl ⟨r', c', rfl, s9, by rw [HN.out]; exact b9, by rw [HN.out]; exact hr9⟩
end Go.Proofs.Ytihgidkkdjmlkaa
