/-
  The contract of cubbyholelaw31.known: the examples of the chapter.
-/
import Derived.Test.YtbjhpefnonnkmaaP
namespace Go.Proofs.Ytbjhpefnonnkmaa
open Go.ChangeShapes Go.WideShapes Go.ChangeAt Go.RowKit
set_option linter.unusedVariables false

/-- What the examples see: a cache and two turns. -/
structure Kn (w : World) (p r cap m c3 c4 : Nat) (R : List Pl) (h : Nat) (W : World) : Prop where
  bel : Below w.heap.size w W
  sec : ∃ L, IsSec W p r cap m R h L ∧ MapOk R L
  b3 : W.heap[c3]? = some (.cells #[.bool false, .bool false, .int .u32 0] 37 (0, 0))
  b4 : W.heap[c4]? = some (.cells #[.bool true, .bool false, .int .u32 0] 37 (0, 0))
  n3 : c3 ∉ [p, r, m]
  n4 : c4 ∉ [p, r, m]
  lo : ∀ i ∈ [p, r, m], w.heap.size ≤ i
theorem Kn.keep {w W W' : World} {p r cap m c3 c4 : Nat} {R R' : List Pl} {h h' : Nat} (s : Kn w p r cap m c3 c4 R h W) (k : Keeps [p, r, m] W W') (q : ∃ L, IsSec W' p r cap m R' h' L ∧ MapOk R' L) : Kn w p r cap m c3 c4 R' h' W' :=
  ⟨s.bel.trans (k.below s.lo s.bel.size), q, k.at s.b3 s.n3, k.at s.b4 s.n4, s.n3, s.n4, s.lo⟩
theorem Kn.below {w W W' : World} {p r cap m c3 c4 : Nat} {R : List Pl} {h : Nat} (s : Kn w p r cap m c3 c4 R h W) (k : Below W.heap.size W W') : Kn w p r cap m c3 c4 R h W' := by
  obtain ⟨L, q, M⟩ := s.sec
  exact s.keep (Keeps.of_below k) ⟨L, q.below k, M⟩
section
variable {w W : World} {p r cap m c3 c4 : Nat} {R : List Pl} {h : Nat}
theorem kn_uses (s : Kn w p r cap m c3 c4 R h W) (k : Int) (a b : Bool) (c : Int) (R' : List Pl) (h' : Nat) (hu : useR R h k = ⟨R', h', a, b, c⟩) (hl : R.length ≤ 1024 ∧ h < R.length) :
    Calls Try.prog 21 #[.pointer (some ⟨p, 0, none⟩), .int .u32 k, .agg #[.bool a, .bool b, .int .u32 c]] W fun e w' => e = .returned (.bool true) ∧ Kn w p r cap m c3 c4 R' h' w' := by
  obtain ⟨L, q, M⟩ := s.sec
  refine (uses_is k a b c R' h' q M hl.1 hl.2 hu).mono ?_
  rintro e w' ⟨rfl, k', L', q', M'⟩
  exact ⟨rfl, s.keep k' ⟨L', q', M'⟩⟩
theorem kn_ring (s : Kn w p r cap m c3 c4 R h W) (x y z : Int) (hl : R.length ≤ 1024) (hk : (R.filter (·.full)).map (·.key) = [x, y, z]) (hm : (R.filter (·.full)).map (·.mark) = List.replicate 3 false) (hI : Int) (hh : hI = (h : Int)) :
    Calls Try.prog 22 #[.pointer (some ⟨p, 0, none⟩), .int .i64 hI, .slice (some ⟨W.heap.size, 0, none⟩) 3 3] (W.alloc (.cells #[.int .u32 x, .int .u32 y, .int .u32 z] 29)) fun e w' => e = .returned (.bool true) ∧ Kn w p r cap m c3 c4 R h w' := by
  subst hh
  have s1 := s.below ((Below.refl _ _).alloc (Nat.le_refl _) (.cells #[.int .u32 x, .int .u32 y, .int .u32 z] 29))
  obtain ⟨L, q, M⟩ := s1.sec
  refine (ringLaw_is (B := 0) [x, y, z] q hl (own_new (Nat.zero_le _) rfl rfl (by unfold maxLen; simp)) hk hm).mono ?_
  rintro e w' ⟨rfl, b⟩
  exact ⟨rfl, s1.below b⟩
theorem kn_drop (s : Kn w p r cap m c3 c4 R h W) (k : Int) (R' : List Pl) (b : Bool) (hu : dropR R k = R') (hb : (atR R k).isSome = b) (hl : R.length ≤ 1024) :
    Calls Try.prog 12 #[.pointer (some ⟨p, 0, none⟩), .int .u32 k] W fun e w' => e = .returned (.tuple #[.bool b, .int .i64 0]) ∧ Kn w p r cap m c3 c4 R' h w' := by
  obtain ⟨L, q, M⟩ := s.sec
  subst hu; subst hb
  refine (drop_is k q M hl).mono ?_
  rintro e w' ⟨rfl, k', q'⟩
  exact ⟨rfl, s.keep (k'.weak (by simp)) q'⟩
end

def Y0 : List Pl := [Pl.no, Pl.no, Pl.no]
def Y1 : List Pl := [⟨1, true, false⟩, Pl.no, Pl.no]
def Y2 : List Pl := [⟨1, true, false⟩, ⟨2, true, false⟩, Pl.no]
def Y3 : List Pl := [⟨1, true, false⟩, ⟨2, true, false⟩, ⟨3, true, false⟩]
def Y4 : List Pl := [⟨1, true, true⟩, ⟨2, true, false⟩, ⟨3, true, false⟩]
def Y5 : List Pl := [⟨1, true, false⟩, ⟨4, true, false⟩, ⟨3, true, false⟩]
def Y6 : List Pl := [⟨1, true, false⟩, ⟨4, true, false⟩, ⟨3, true, true⟩]
def Y7 : List Pl := [⟨5, true, false⟩, ⟨4, true, false⟩, ⟨3, true, false⟩]
def Y8 : List Pl := [⟨5, true, false⟩, ⟨4, true, false⟩, Pl.no]
def Y9 : List Pl := [⟨5, true, false⟩, ⟨4, true, false⟩, ⟨6, true, false⟩]
set_option maxRecDepth 100000 in
set_option maxHeartbeats 8000000 in
theorem known_any (w : World) : Calls Try.prog 8 #[] w fun e w' => e = .returned (.bool true) ∧ Below w.heap.size w w' := by
  have u0 := Lib.hid (show useR Y0 0 1 = ⟨Y1, 0, false, false, 0⟩ from by rfl)
  have u1 := Lib.hid (show useR Y1 0 2 = ⟨Y2, 0, false, false, 0⟩ from by rfl)
  have u2 := Lib.hid (show useR Y2 0 3 = ⟨Y3, 0, false, false, 0⟩ from by rfl)
  have u3 := Lib.hid (show useR Y3 0 1 = ⟨Y4, 0, true, false, 0⟩ from by rfl)
  have u4 := Lib.hid (show useR Y4 0 4 = ⟨Y5, 2, false, true, 2⟩ from by rfl)
  have u5 := Lib.hid (show (Y5.filter (·.full)).map (·.key) = [1, 4, 3] ∧ (Y5.filter (·.full)).map (·.mark) = List.replicate 3 false from by exact ⟨by rfl, by rfl⟩)
  have u6 := Lib.hid (show useR Y5 2 3 = ⟨Y6, 2, true, false, 0⟩ from by rfl)
  have u7 := Lib.hid (show useR Y6 2 5 = ⟨Y7, 1, false, true, 1⟩ from by rfl)
  have u8 := Lib.hid (show (Y7.filter (·.full)).map (·.key) = [5, 4, 3] ∧ (Y7.filter (·.full)).map (·.mark) = List.replicate 3 false from by exact ⟨by rfl, by rfl⟩)
  have u9 := Lib.hid (show dropR Y7 3 = Y8 ∧ (atR Y7 3).isSome = true from by exact ⟨by rfl, by rfl⟩)
  have u10 := Lib.hid (show dropR Y8 3 = Y8 ∧ (atR Y8 3).isSome = false from by exact ⟨by rfl, by rfl⟩)
  have u11 := Lib.hid (show useR Y8 1 6 = ⟨Y9, 1, false, false, 0⟩ from by rfl)
  have u12 := Lib.hid (show (Y9.filter (·.full)).map (·.key) = [5, 4, 6] ∧ (Y9.filter (·.full)).map (·.mark) = List.replicate 3 false from by exact ⟨by rfl, by rfl⟩)
  go_enter Try.func8, Try.ntmps8
  go_upto_region 5 with (first | (go_at_call 9; refine (new_ok 3 (by decide) (by decide) _).mono ?_; rintro e w0 ⟨p, r, cap, m, rfl, b0, lp, lr, lm, s0⟩))
  have hp := lt_of_heap s0.obj
  have hr := s0.row.lt
  have hm := s0.mp.lt
  refine wp_seen (Kn w p r cap m w0.heap.size (w0.heap.size + 1) Y0 0) ⟨(b0.alloc b0.size _).alloc (by simp; exact Nat.le_succ_of_le b0.size) _, ⟨[], ⟨heap_alloc (heap_alloc s0.obj _) _, (s0.row.alloc _).alloc _, (s0.mp.alloc _).alloc _, s0.pr, s0.pm, s0.rm⟩, MapOk.new 3⟩, heap_alloc (heap_new rfl) _, heap_new (by simp), by simp; omega, by simp; omega, by simp; omega⟩ ?_
  generalize w0.heap.size = c3
  intro W0 K0
  clear s0 b0 lp lr lm hp hr hm
  have x0 : W0.cell? ⟨c3, 0, none⟩ = some (.bool false) := cell_of K0.b3 0
  have x1 : W0.cell? ⟨c3, 1, none⟩ = some (.bool false) := cell_of K0.b3 1
  have x2 : W0.cell? ⟨c3, 2, none⟩ = some (.int .u32 0) := cell_of K0.b3 2
  have y0 : W0.cell? ⟨c3 + 1, 0, none⟩ = some (.bool true) := cell_of K0.b4 0
  have y1 : W0.cell? ⟨c3 + 1, 1, none⟩ = some (.bool false) := cell_of K0.b4 1
  have y2 : W0.cell? ⟨c3 + 1, 2, none⟩ = some (.int .u32 0) := cell_of K0.b4 2
  go_wp2_with fail
  go_at_call 21
  refine (kn_uses K0 1 false false 0 Y1 0 u0.out (by decide)).mono ?_
  rintro e W1 ⟨rfl, K1⟩
  clear x0 x1 x2 y0 y1 y2 K0
  have x0 : W1.cell? ⟨c3, 0, none⟩ = some (.bool false) := cell_of K1.b3 0
  have x1 : W1.cell? ⟨c3, 1, none⟩ = some (.bool false) := cell_of K1.b3 1
  have x2 : W1.cell? ⟨c3, 2, none⟩ = some (.int .u32 0) := cell_of K1.b3 2
  have y0 : W1.cell? ⟨c3 + 1, 0, none⟩ = some (.bool true) := cell_of K1.b4 0
  have y1 : W1.cell? ⟨c3 + 1, 1, none⟩ = some (.bool false) := cell_of K1.b4 1
  have y2 : W1.cell? ⟨c3 + 1, 2, none⟩ = some (.int .u32 0) := cell_of K1.b4 2
  go_wp2_with fail
  go_at_call 21
  refine (kn_uses K1 2 false false 0 Y2 0 u1.out (by decide)).mono ?_
  rintro e W2 ⟨rfl, K2⟩
  clear x0 x1 x2 y0 y1 y2 K1
  have x0 : W2.cell? ⟨c3, 0, none⟩ = some (.bool false) := cell_of K2.b3 0
  have x1 : W2.cell? ⟨c3, 1, none⟩ = some (.bool false) := cell_of K2.b3 1
  have x2 : W2.cell? ⟨c3, 2, none⟩ = some (.int .u32 0) := cell_of K2.b3 2
  have y0 : W2.cell? ⟨c3 + 1, 0, none⟩ = some (.bool true) := cell_of K2.b4 0
  have y1 : W2.cell? ⟨c3 + 1, 1, none⟩ = some (.bool false) := cell_of K2.b4 1
  have y2 : W2.cell? ⟨c3 + 1, 2, none⟩ = some (.int .u32 0) := cell_of K2.b4 2
  go_wp2_with fail
  go_at_call 21
  refine (kn_uses K2 3 false false 0 Y3 0 u2.out (by decide)).mono ?_
  rintro e W3 ⟨rfl, K3⟩
  clear x0 x1 x2 y0 y1 y2 K2
  have x0 : W3.cell? ⟨c3, 0, none⟩ = some (.bool false) := cell_of K3.b3 0
  have x1 : W3.cell? ⟨c3, 1, none⟩ = some (.bool false) := cell_of K3.b3 1
  have x2 : W3.cell? ⟨c3, 2, none⟩ = some (.int .u32 0) := cell_of K3.b3 2
  have y0 : W3.cell? ⟨c3 + 1, 0, none⟩ = some (.bool true) := cell_of K3.b4 0
  have y1 : W3.cell? ⟨c3 + 1, 1, none⟩ = some (.bool false) := cell_of K3.b4 1
  have y2 : W3.cell? ⟨c3 + 1, 2, none⟩ = some (.int .u32 0) := cell_of K3.b4 2
  go_wp2_with fail
  go_at_call 21
  refine (kn_uses K3 1 true false 0 Y4 0 u3.out (by decide)).mono ?_
  rintro e W4 ⟨rfl, K4⟩
  clear x0 x1 x2 y0 y1 y2 K3
  have x0 : W4.cell? ⟨c3, 0, none⟩ = some (.bool false) := cell_of K4.b3 0
  have x1 : W4.cell? ⟨c3, 1, none⟩ = some (.bool false) := cell_of K4.b3 1
  have x2 : W4.cell? ⟨c3, 2, none⟩ = some (.int .u32 0) := cell_of K4.b3 2
  have y0 : W4.cell? ⟨c3 + 1, 0, none⟩ = some (.bool true) := cell_of K4.b4 0
  have y1 : W4.cell? ⟨c3 + 1, 1, none⟩ = some (.bool false) := cell_of K4.b4 1
  have y2 : W4.cell? ⟨c3 + 1, 2, none⟩ = some (.int .u32 0) := cell_of K4.b4 2
  go_wp2_with fail
  go_at_call 21
  refine (kn_uses K4 4 false true 2 Y5 2 u4.out (by decide)).mono ?_
  rintro e W5 ⟨rfl, K5⟩
  clear x0 x1 x2 y0 y1 y2 K4
  have x0 : W5.cell? ⟨c3, 0, none⟩ = some (.bool false) := cell_of K5.b3 0
  have x1 : W5.cell? ⟨c3, 1, none⟩ = some (.bool false) := cell_of K5.b3 1
  have x2 : W5.cell? ⟨c3, 2, none⟩ = some (.int .u32 0) := cell_of K5.b3 2
  have y0 : W5.cell? ⟨c3 + 1, 0, none⟩ = some (.bool true) := cell_of K5.b4 0
  have y1 : W5.cell? ⟨c3 + 1, 1, none⟩ = some (.bool false) := cell_of K5.b4 1
  have y2 : W5.cell? ⟨c3 + 1, 2, none⟩ = some (.int .u32 0) := cell_of K5.b4 2
  go_wp2_with fail
  go_at_call 22
  refine (kn_ring K5 1 4 3 (by decide) u5.out.1 u5.out.2 2 rfl).mono ?_
  rintro e W6 ⟨rfl, K6⟩
  clear x0 x1 x2 y0 y1 y2 K5
  have x0 : W6.cell? ⟨c3, 0, none⟩ = some (.bool false) := cell_of K6.b3 0
  have x1 : W6.cell? ⟨c3, 1, none⟩ = some (.bool false) := cell_of K6.b3 1
  have x2 : W6.cell? ⟨c3, 2, none⟩ = some (.int .u32 0) := cell_of K6.b3 2
  have y0 : W6.cell? ⟨c3 + 1, 0, none⟩ = some (.bool true) := cell_of K6.b4 0
  have y1 : W6.cell? ⟨c3 + 1, 1, none⟩ = some (.bool false) := cell_of K6.b4 1
  have y2 : W6.cell? ⟨c3 + 1, 2, none⟩ = some (.int .u32 0) := cell_of K6.b4 2
  go_wp2_with fail
  go_at_call 21
  refine (kn_uses K6 3 true false 0 Y6 2 u6.out (by decide)).mono ?_
  rintro e W7 ⟨rfl, K7⟩
  clear x0 x1 x2 y0 y1 y2 K6
  have x0 : W7.cell? ⟨c3, 0, none⟩ = some (.bool false) := cell_of K7.b3 0
  have x1 : W7.cell? ⟨c3, 1, none⟩ = some (.bool false) := cell_of K7.b3 1
  have x2 : W7.cell? ⟨c3, 2, none⟩ = some (.int .u32 0) := cell_of K7.b3 2
  have y0 : W7.cell? ⟨c3 + 1, 0, none⟩ = some (.bool true) := cell_of K7.b4 0
  have y1 : W7.cell? ⟨c3 + 1, 1, none⟩ = some (.bool false) := cell_of K7.b4 1
  have y2 : W7.cell? ⟨c3 + 1, 2, none⟩ = some (.int .u32 0) := cell_of K7.b4 2
  go_wp2_with fail
  go_at_call 21
  refine (kn_uses K7 5 false true 1 Y7 1 u7.out (by decide)).mono ?_
  rintro e W8 ⟨rfl, K8⟩
  clear x0 x1 x2 y0 y1 y2 K7
  have x0 : W8.cell? ⟨c3, 0, none⟩ = some (.bool false) := cell_of K8.b3 0
  have x1 : W8.cell? ⟨c3, 1, none⟩ = some (.bool false) := cell_of K8.b3 1
  have x2 : W8.cell? ⟨c3, 2, none⟩ = some (.int .u32 0) := cell_of K8.b3 2
  have y0 : W8.cell? ⟨c3 + 1, 0, none⟩ = some (.bool true) := cell_of K8.b4 0
  have y1 : W8.cell? ⟨c3 + 1, 1, none⟩ = some (.bool false) := cell_of K8.b4 1
  have y2 : W8.cell? ⟨c3 + 1, 2, none⟩ = some (.int .u32 0) := cell_of K8.b4 2
  go_wp2_with fail
  go_at_call 22
  refine (kn_ring K8 5 4 3 (by decide) u8.out.1 u8.out.2 1 rfl).mono ?_
  rintro e W9 ⟨rfl, K9⟩
  clear x0 x1 x2 y0 y1 y2 K8
  have x0 : W9.cell? ⟨c3, 0, none⟩ = some (.bool false) := cell_of K9.b3 0
  have x1 : W9.cell? ⟨c3, 1, none⟩ = some (.bool false) := cell_of K9.b3 1
  have x2 : W9.cell? ⟨c3, 2, none⟩ = some (.int .u32 0) := cell_of K9.b3 2
  have y0 : W9.cell? ⟨c3 + 1, 0, none⟩ = some (.bool true) := cell_of K9.b4 0
  have y1 : W9.cell? ⟨c3 + 1, 1, none⟩ = some (.bool false) := cell_of K9.b4 1
  have y2 : W9.cell? ⟨c3 + 1, 2, none⟩ = some (.int .u32 0) := cell_of K9.b4 2
  go_wp2_with fail
  go_at_call 12
  refine (kn_drop K9 3 Y8 true u9.out.1 u9.out.2 (by decide)).mono ?_
  rintro e W10 ⟨rfl, K10⟩
  clear x0 x1 x2 y0 y1 y2 K9
  have x0 : W10.cell? ⟨c3, 0, none⟩ = some (.bool false) := cell_of K10.b3 0
  have x1 : W10.cell? ⟨c3, 1, none⟩ = some (.bool false) := cell_of K10.b3 1
  have x2 : W10.cell? ⟨c3, 2, none⟩ = some (.int .u32 0) := cell_of K10.b3 2
  have y0 : W10.cell? ⟨c3 + 1, 0, none⟩ = some (.bool true) := cell_of K10.b4 0
  have y1 : W10.cell? ⟨c3 + 1, 1, none⟩ = some (.bool false) := cell_of K10.b4 1
  have y2 : W10.cell? ⟨c3 + 1, 2, none⟩ = some (.int .u32 0) := cell_of K10.b4 2
  go_wp2_with fail
  go_at_call 12
  refine (kn_drop K10 3 Y8 false u10.out.1 u10.out.2 (by decide)).mono ?_
  rintro e W11 ⟨rfl, K11⟩
  clear x0 x1 x2 y0 y1 y2 K10
  have x0 : W11.cell? ⟨c3, 0, none⟩ = some (.bool false) := cell_of K11.b3 0
  have x1 : W11.cell? ⟨c3, 1, none⟩ = some (.bool false) := cell_of K11.b3 1
  have x2 : W11.cell? ⟨c3, 2, none⟩ = some (.int .u32 0) := cell_of K11.b3 2
  have y0 : W11.cell? ⟨c3 + 1, 0, none⟩ = some (.bool true) := cell_of K11.b4 0
  have y1 : W11.cell? ⟨c3 + 1, 1, none⟩ = some (.bool false) := cell_of K11.b4 1
  have y2 : W11.cell? ⟨c3 + 1, 2, none⟩ = some (.int .u32 0) := cell_of K11.b4 2
  go_wp2_with fail
  go_at_call 21
  refine (kn_uses K11 6 false false 0 Y9 1 u11.out (by decide)).mono ?_
  rintro e W12 ⟨rfl, K12⟩
  clear x0 x1 x2 y0 y1 y2 K11
  have x0 : W12.cell? ⟨c3, 0, none⟩ = some (.bool false) := cell_of K12.b3 0
  have x1 : W12.cell? ⟨c3, 1, none⟩ = some (.bool false) := cell_of K12.b3 1
  have x2 : W12.cell? ⟨c3, 2, none⟩ = some (.int .u32 0) := cell_of K12.b3 2
  have y0 : W12.cell? ⟨c3 + 1, 0, none⟩ = some (.bool true) := cell_of K12.b4 0
  have y1 : W12.cell? ⟨c3 + 1, 1, none⟩ = some (.bool false) := cell_of K12.b4 1
  have y2 : W12.cell? ⟨c3 + 1, 2, none⟩ = some (.int .u32 0) := cell_of K12.b4 2
  go_wp2_with fail
  go_at_call 22
  refine (kn_ring K12 5 4 6 (by decide) u12.out.1 u12.out.2 1 rfl).mono ?_
  rintro e W13 ⟨rfl, K13⟩
  clear x0 x1 x2 y0 y1 y2 K12
  have x0 : W13.cell? ⟨c3, 0, none⟩ = some (.bool false) := cell_of K13.b3 0
  have x1 : W13.cell? ⟨c3, 1, none⟩ = some (.bool false) := cell_of K13.b3 1
  have x2 : W13.cell? ⟨c3, 2, none⟩ = some (.int .u32 0) := cell_of K13.b3 2
  have y0 : W13.cell? ⟨c3 + 1, 0, none⟩ = some (.bool true) := cell_of K13.b4 0
  have y1 : W13.cell? ⟨c3 + 1, 1, none⟩ = some (.bool false) := cell_of K13.b4 1
  have y2 : W13.cell? ⟨c3 + 1, 2, none⟩ = some (.int .u32 0) := cell_of K13.b4 2
  go_wp2_with (first | (go_at_call 9; refine (new_no _ (by decide) _).mono ?_; rintro e w' ⟨rfl, rfl⟩))
  go_ret
  exact ⟨rfl, K13.bel⟩

end Go.Proofs.Ytbjhpefnonnkmaa
