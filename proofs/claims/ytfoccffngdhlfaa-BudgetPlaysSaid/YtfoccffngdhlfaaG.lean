/-
  The contract of cubbyholelaw17.known: the examples of the chapter.
-/
import Derived.Test.YtfoccffngdhlfaaF
namespace Go.Proofs.Ytfoccffngdhlfaa
open Go.ChangeShapes Go.WideShapes Go.ChangeAt Go.RowKit
set_option linter.unusedVariables false

theorem add_lit (p : Nat) (K K' : Bud) (g c r : Int) (w : World) (h : At w p K) (hI : K.Inv) (hr : addR K g c = (r, K')) :
    Calls Try.prog 13 #[.pointer (some ⟨p, 0, none⟩), .int .i64 g, .int .i64 c] w fun e w' => e = .returned (.int .i64 r) ∧ Keep p w w' ∧ At w' p K' := by
  have := add_any p K g c w h hI
  rw [hr] at this
  exact this
theorem remove_lit (p : Nat) (K K' : Bud) (g c r : Int) (w : World) (h : At w p K) (hI : K.Inv) (hr : removeR K g c = (r, K')) :
    Calls Try.prog 18 #[.pointer (some ⟨p, 0, none⟩), .int .i64 g, .int .i64 c] w fun e w' => e = .returned (.int .i64 r) ∧ Keep p w w' ∧ At w' p K' := by
  have := remove_any p K g c w h hI
  rw [hr] at this
  exact this
theorem move_lit (p : Nat) (K K' : Bud) (g c r : Int) (w : World) (h : At w p K) (hI : K.Inv) (hr : moveR K g c = (r, K')) :
    Calls Try.prog 14 #[.pointer (some ⟨p, 0, none⟩), .int .i64 g, .int .i64 c] w fun e w' => e = .returned (.int .i64 r) ∧ Keep p w w' ∧ At w' p K' := by
  have := move_any p K g c w h hI
  rw [hr] at this
  exact this
theorem set_lit (p : Nat) (K K' : Bud) (c b r : Int) (w : World) (h : At w p K) (hI : K.Inv) (hr : setR K c b = (r, K')) :
    Calls Try.prog 20 #[.pointer (some ⟨p, 0, none⟩), .int .i64 c, .int .i64 b] w fun e w' => e = .returned (.int .i64 r) ∧ Keep p w w' ∧ At w' p K' := by
  have := set_any p K c b w h hI
  rw [hr] at this
  exact this
theorem change_lit (p : Nat) (K K' : Bud) (g a b r : Int) (w : World) (h : At w p K) (hI : K.Inv) (hr : changeR K g a b = (r, K')) :
    Calls Try.prog 15 #[.pointer (some ⟨p, 0, none⟩), .int .i64 g, .int .i64 a, .int .i64 b] w fun e w' => e = .returned (.int .i64 r) ∧ Keep p w w' ∧ At w' p K' := by
  have := change_any p K g a b w h hI
  rw [hr] at this
  exact this
theorem total_lit (p : Nat) (K : Bud) (x y : Int) (r : Bool) (w : World) (h : At w p K) (hI : K.Inv) (hr : eq2 (K.c0 + K.c1) (K.b0 + K.b1) x y = r) :
    Calls Try.prog 19 #[.pointer (some ⟨p, 0, none⟩), .int .i64 x, .int .i64 y] w fun e w' => e = .returned (.bool r) ∧ Keep p w w' ∧ At w' p K := by
  refine (lawTotal_any p K x y w h hI).mono ?_
  rintro e w' ⟨rfl, hb⟩
  exact ⟨by rw [hr], Keep.of_below hb, h.below hb⟩
theorem over_lit (p : Nat) (K : Bud) (x y : Int) (r : Bool) (w : World) (h : At w p K) (hI : K.Inv) (hr : eq2 (max 0 (K.c0 + K.c1 - K.mc)) (max 0 (K.b0 + K.b1 - K.mb)) x y = r) :
    Calls Try.prog 27 #[.pointer (some ⟨p, 0, none⟩), .int .i64 x, .int .i64 y] w fun e w' => e = .returned (.bool r) ∧ Keep p w w' ∧ At w' p K := by
  refine (lawOver_any p K x y w h hI).mono ?_
  rintro e w' ⟨rfl, hb⟩
  exact ⟨by rw [hr], Keep.of_below hb, h.below hb⟩
theorem used_lit (p : Nat) (K : Bud) (g x y : Int) (r : Bool) (w : World) (h : At w p K) (hI : K.Inv) (hr : eq2 (usedN K g) (usedC K g) x y = r) :
    Calls Try.prog 22 #[.pointer (some ⟨p, 0, none⟩), .int .i64 g, .int .i64 x, .int .i64 y] w fun e w' => e = .returned (.bool r) ∧ Keep p w w' ∧ At w' p K := by
  refine (lawUsed_any p K g x y w h hI).mono ?_
  rintro e w' ⟨rfl, hb⟩
  exact ⟨by rw [hr], Keep.of_below hb, h.below hb⟩
theorem inv_of (K : Bud) (h : (okB K.mc K.mb && (decide (0 ≤ K.c0) && decide (K.c0 ≤ 2097152) && decide (0 ≤ K.b0) && decide (K.b0 ≤ 2305843009213693952)) && (decide (0 ≤ K.c1) && decide (K.c1 ≤ 2097152) && decide (0 ≤ K.b1) && decide (K.b1 ≤ 2305843009213693952))) = true) : K.Inv := by
  simp only [Bool.and_eq_true, decide_eq_true_iff] at h
  obtain ⟨⟨h0, ⟨⟨h1, h2⟩, h3⟩, h4⟩, ⟨⟨h5, h6⟩, h7⟩, h8⟩ := h
  exact ⟨h0, h1, h2, h3, h4, h5, h6, h7, h8⟩

def X0 : Bud := ⟨3, 100, 0, 0, 0, 0⟩
theorem x0 : X0.Inv := inv_of _ (by decide +kernel)
def X1 : Bud := ⟨3, 100, 1, 60, 0, 0⟩
theorem x1 : X1.Inv := inv_of _ (by decide +kernel)
def X2 : Bud := ⟨3, 100, 1, 60, 1, 30⟩
theorem x2 : X2.Inv := inv_of _ (by decide +kernel)
def X3 : Bud := ⟨3, 100, 2, 80, 1, 30⟩
theorem x3 : X3.Inv := inv_of _ (by decide +kernel)
def X4 : Bud := ⟨3, 100, 1, 20, 2, 90⟩
theorem x4 : X4.Inv := inv_of _ (by decide +kernel)
def X5 : Bud := ⟨3, 100, 1, 20, 2, 40⟩
theorem x5 : X5.Inv := inv_of _ (by decide +kernel)
def X6 : Bud := ⟨3, 100, 0, 0, 2, 40⟩
theorem x6 : X6.Inv := inv_of _ (by decide +kernel)
def X7 : Bud := ⟨1, 30, 0, 0, 2, 40⟩
theorem x7 : X7.Inv := inv_of _ (by decide +kernel)

theorem ok0 : okB 3 100 = true := by decide +kernel
theorem ok1 : okB 0 1 = false := by decide +kernel
theorem at_start (w : World) : At (w.alloc (.cells (newB 3 100).cells 56)) w.heap.size X0 := At.new
theorem keep_start (w : World) : Keep w.heap.size w (w.alloc (.cells (newB 3 100).cells 56)) := (Keep.refl _ _).alloc _
set_option maxHeartbeats 4000000 in
theorem known_any (w : World) : Calls Try.prog 10 #[] w fun e w' => e = .returned (.bool true) ∧ Below w.heap.size w w' := by
  have r1 : addR X0 0 60 = (0, X1) := by rfl
  have r2 : addR X1 1 30 = (0, X2) := by rfl
  have r3 : addR X2 0 20 = (0, X3) := by rfl
  have r4 : eq2 (X3.c0 + X3.c1) (X3.b0 + X3.b1) 3 110 = true := by decide +kernel
  have r5 : eq2 (max 0 (X3.c0 + X3.c1 - X3.mc)) (max 0 (X3.b0 + X3.b1 - X3.mb)) 0 10 = true := by decide +kernel
  have r6 : eq2 (usedN X3 0) (usedC X3 0) 2 80 = true := by decide +kernel
  have r7 : moveR X3 0 60 = (0, X4) := by rfl
  have r8 : eq2 (usedN X4 1) (usedC X4 1) 2 90 = true := by decide +kernel
  have r9 : changeR X4 1 60 10 = (0, X5) := by rfl
  have r10 : eq2 (X5.c0 + X5.c1) (X5.b0 + X5.b1) 3 60 = true := by decide +kernel
  have r11 : eq2 (max 0 (X5.c0 + X5.c1 - X5.mc)) (max 0 (X5.b0 + X5.b1 - X5.mb)) 0 0 = true := by decide +kernel
  have r12 : removeR X5 0 21 = (9, X5) := by rfl
  have r13 : removeR X5 0 19 = (9, X5) := by rfl
  have r14 : removeR X5 0 20 = (0, X6) := by rfl
  have r15 : removeR X6 0 0 = (9, X6) := by rfl
  have r16 : setR X6 1 30 = (0, X7) := by rfl
  have r17 : eq2 (max 0 (X7.c0 + X7.c1 - X7.mc)) (max 0 (X7.b0 + X7.b1 - X7.mb)) 1 10 = true := by decide +kernel
  have p18 := fun u hu => part_ok w.heap.size X7 33 u hu x7 (by decide) (by decide)
  have p20 := fun u hu => part_no w.heap.size X7 101 u hu x7 (by decide)
  have r21 : setR X7 1 1099511627777 = (2, X7) := by rfl
  have r22 : addR X7 2 1 = (2, X7) := by rfl
  have r23 : addR X7 0 (-1) = (2, X7) := by rfl
  go_enter Try.func10, Try.ntmps10
  go_wp2_with (first | (go_at_call 11; with_reducible refine (new_ok 3 100 _ ok0).mono ?_; rintro e w0 ⟨rfl, rfl⟩; have h0 : At _ w.heap.size X0 := at_start w; have k0 := keep_start w) | (go_at_call 13; with_reducible refine (add_lit w.heap.size X0 X1 0 60 0 _ h0 x0 r1).mono ?_; rintro e w1 ⟨rfl, k, h1⟩; have k1 := Keep.trans k0 k; clear k k0 h0) | (go_at_call 13; with_reducible refine (add_lit w.heap.size X1 X2 1 30 0 _ h1 x1 r2).mono ?_; rintro e w2 ⟨rfl, k, h2⟩; have k2 := Keep.trans k1 k; clear k k1 h1) | (go_at_call 13; with_reducible refine (add_lit w.heap.size X2 X3 0 20 0 _ h2 x2 r3).mono ?_; rintro e w3 ⟨rfl, k, h3⟩; have k3 := Keep.trans k2 k; clear k k2 h2) | (go_at_call 19; with_reducible refine (total_lit w.heap.size X3 3 110 true _ h3 x3 r4).mono ?_; rintro e w4 ⟨rfl, k, h4⟩; have k4 := Keep.trans k3 k; clear k k3 h3) | (go_at_call 27; with_reducible refine (over_lit w.heap.size X3 0 10 true _ h4 x3 r5).mono ?_; rintro e w5 ⟨rfl, k, h5⟩; have k5 := Keep.trans k4 k; clear k k4 h4) | (go_at_call 22; with_reducible refine (used_lit w.heap.size X3 0 2 80 true _ h5 x3 r6).mono ?_; rintro e w6 ⟨rfl, k, h6⟩; have k6 := Keep.trans k5 k; clear k k5 h5) | (go_at_call 14; with_reducible refine (move_lit w.heap.size X3 X4 0 60 0 _ h6 x3 r7).mono ?_; rintro e w7 ⟨rfl, k, h7⟩; have k7 := Keep.trans k6 k; clear k k6 h6) | (go_at_call 22; with_reducible refine (used_lit w.heap.size X4 1 2 90 true _ h7 x4 r8).mono ?_; rintro e w8 ⟨rfl, k, h8⟩; have k8 := Keep.trans k7 k; clear k k7 h7) | (go_at_call 15; with_reducible refine (change_lit w.heap.size X4 X5 1 60 10 0 _ h8 x4 r9).mono ?_; rintro e w9 ⟨rfl, k, h9⟩; have k9 := Keep.trans k8 k; clear k k8 h8) | (go_at_call 19; with_reducible refine (total_lit w.heap.size X5 3 60 true _ h9 x5 r10).mono ?_; rintro e w10 ⟨rfl, k, h10⟩; have k10 := Keep.trans k9 k; clear k k9 h9) | (go_at_call 27; with_reducible refine (over_lit w.heap.size X5 0 0 true _ h10 x5 r11).mono ?_; rintro e w11 ⟨rfl, k, h11⟩; have k11 := Keep.trans k10 k; clear k k10 h10) | (go_at_call 18; with_reducible refine (remove_lit w.heap.size X5 X5 0 21 9 _ h11 x5 r12).mono ?_; rintro e w12 ⟨rfl, k, h12⟩; have k12 := Keep.trans k11 k; clear k k11 h11) | (go_at_call 18; with_reducible refine (remove_lit w.heap.size X5 X5 0 19 9 _ h12 x5 r13).mono ?_; rintro e w13 ⟨rfl, k, h13⟩; have k13 := Keep.trans k12 k; clear k k12 h12) | (go_at_call 18; with_reducible refine (remove_lit w.heap.size X5 X6 0 20 0 _ h13 x5 r14).mono ?_; rintro e w14 ⟨rfl, k, h14⟩; have k14 := Keep.trans k13 k; clear k k13 h13) | (go_at_call 18; with_reducible refine (remove_lit w.heap.size X6 X6 0 0 9 _ h14 x6 r15).mono ?_; rintro e w15 ⟨rfl, k, h15⟩; have k15 := Keep.trans k14 k; clear k k14 h14) | (go_at_call 20; with_reducible refine (set_lit w.heap.size X6 X7 1 30 0 _ h15 x6 r16).mono ?_; rintro e w16 ⟨rfl, k, h16⟩; have k16 := Keep.trans k15 k; clear k k15 h15) | (go_at_call 27; with_reducible refine (over_lit w.heap.size X7 1 10 true _ h16 x7 r17).mono ?_; rintro e w17 ⟨rfl, k, h17⟩; have k17 := Keep.trans k16 k; clear k k16 h16) | (go_at_call 12; with_reducible refine (p18 _ h17).mono ?_; rintro e w18 ⟨rfl, rfl⟩) | (go_at_call 11; with_reducible refine (new_no 0 1 _ ok1).mono ?_; rintro e w19 ⟨rfl, rfl⟩) | (go_at_call 12; with_reducible refine (p20 _ h17).mono ?_; rintro e w20 ⟨rfl, rfl⟩) | (go_at_call 20; with_reducible refine (set_lit w.heap.size X7 X7 1 1099511627777 2 _ h17 x7 r21).mono ?_; rintro e w21 ⟨rfl, k, h21⟩; have k21 := Keep.trans k17 k; clear k k17 h17) | (go_at_call 13; with_reducible refine (add_lit w.heap.size X7 X7 2 1 2 _ h21 x7 r22).mono ?_; rintro e w22 ⟨rfl, k, h22⟩; have k22 := Keep.trans k21 k; clear k k21 h21) | (go_at_call 13; with_reducible refine (add_lit w.heap.size X7 X7 0 (-1) 2 _ h22 x7 r23).mono ?_; rintro e w23 ⟨rfl, k, h23⟩; have k23 := Keep.trans k22 k; clear k k22 h22))
  go_ret
  exact ⟨rfl, k23.below (Nat.le_refl _) (Nat.le_refl _)⟩
end Go.Proofs.Ytfoccffngdhlfaa
