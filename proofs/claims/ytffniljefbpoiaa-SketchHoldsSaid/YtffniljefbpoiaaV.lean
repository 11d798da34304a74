/-
  The walk of SketchPlays.
-/
import Derived.Test.YtffniljefbpoiaaU
namespace Go.Proofs.Ytffniljefbpoiaa
open Go.ChangeShapes Go.WideShapes Go.ChangeAt Go.RowKit
set_option linter.unusedVariables false

/-- What the loop holds on to between the calls. -/
structure Ps (w : World) (p : Nat) (G Q : Nat → Nat) (X : Nat) (R C : Nat → Nat) (K : Sk) (W : World) : Prop where
  bel : Below w.heap.size w W
  s : IsSk W p G Q K
  r : IsRef W R C K
  bx : W.heap[X]? = some (.cells (refC K R C) 27 (0, 0))
  os : ∀ i ∈ blocks p G, w.heap.size ≤ i
  oX : w.heap.size ≤ X
theorem Pt.ps {w W : World} {p : Nat} {G Q : Nat → Nat} {X : Nat} {R C : Nat → Nat} {K : Sk} {A : Nat} {x : Int} {key : ByteArray} (h : Pt w p G Q X R C K K A x key W) : Ps w p G Q X R C K W := ⟨h.bel, h.s, h.r, h.bx, h.os, h.oX⟩
theorem Ps.act {w W : World} {p : Nat} {G Q : Nat → Nat} {X : Nat} {R C : Nat → Nat} {K : Sk} (h : Ps w p G Q X R C K W) (x : Int) (key : ByteArray) : Pt w p G Q X R C K K W.heap.size x key (W.alloc (.cells #[.int .i64 x, .string key] 37)) :=
  have b : Below W.heap.size W (W.alloc (.cells #[.int .i64 x, .string key] 37)) := (Below.refl _ _).alloc (Nat.le_refl _) _
  ⟨h.bel.trans (b.mono h.bel.size), h.s.below b, h.r.below b, (b.block _ (lt_of_heap h.bx)).trans h.bx, heap_new rfl, h.os, h.oX, h.bel.size⟩
/-- The old one was changed after the copy was made. -/
theorem Pt.old {w W W1 W2 : World} {p p' : Nat} {G Q G' Q' : Nat → Nat} {X : Nat} {R C : Nat → Nat} {K K' L L' : Sk} {A : Nat} {x : Int} {key : ByteArray} (h : Pt w p G Q X R C K L A x key W) (h1 : Pt w p' G' Q' X R C K' L' A x key W1) (o : ∀ i ∈ blocks p' G', W.heap.size ≤ i) (k : Keeps (blocks p G) W1 W2) : Pt w p' G' Q' X R C K' L' A x key W2 :=
  h1.keep k h.os fun i hi => ⟨fun hm => by have := h.s.lt i hi; have := o i hm; omega, fun e => h.nX (e ▸ hi), fun e => h.nA (e ▸ hi), fun r hr e => h.r.apart h.s r hr (e ▸ hi)⟩
theorem Sk.add_a (K : Sk) (l : List UInt8) : (K.add l).a ≤ K.a + 1 := by
  unfold Sk.add
  split
  · show (K.a + 1) / 2 ≤ _; omega
  · exact Nat.le_refl _
theorem acts_at {w W : World} {s : Option Addr} {len : Nat} {f : Nat → Int} {g : Nat → ByteArray} (h : IsActs w s len f g) (b : Below w.heap.size w W) {k : Nat} (hk : k < len) : ∃ bb off, s = some ⟨bb, off, none⟩ ∧ W.cell? ⟨bb, off + k * 2, none⟩ = some (.int .i64 (f k)) ∧ W.cell? ⟨bb, off + k * 2 + 1, none⟩ = some (.string (g k)) := by
  obtain ⟨B, off, e, hb, hc⟩ := (h.below b) (by omega)
  exact ⟨B, off, e, (hc k hk).1, (hc k hk).2⟩
set_option maxRecDepth 100000 in
set_option maxHeartbeats 16000000 in
theorem sketchPlays_walk (a0 a1 a2 : Int) (sl : Option Addr) (len cap : Nat) (f : Nat → Int) (g : Nat → ByteArray) (w0 : (Lit.int .i64 a0).wf = true) (w1 : (Lit.int .u64 a1).wf = true) (w2 : (Lit.int .i64 a2).wf = true) (w : World) (hl : len ≤ maxLen) (hacts : IsActs w sl len f g) :
    Calls Try.prog 3 #[.int .i64 a0, .int .u64 a1, .int .i64 a2, .slice sl len cap] w fun e w' => e = .returned (.bool true) ∧ Below w.heap.size w w' := by
  have hseed : Word a1 := word_wf w1
  have hb := int_wf w0
  clear w0 w1 w2
  have hlen : len ≤ 9223372036854775807 := by unfold maxLen at hl; omega
  by_cases hg : 0 ≤ a0 ∧ widthB a0.toNat = true ∧ 0 ≤ a2 ∧ a2 ≤ 16777216
  · obtain ⟨g0, g1, g2, g3⟩ := hg
    obtain ⟨n, rfl⟩ := Int.eq_ofNat_of_zero_le g0
    obtain ⟨s, rfl⟩ := Int.eq_ofNat_of_zero_le g2
    generalize a1 = seed at *
    have h1 : widthB n = true := by simpa using g1
    have h2 : s ≤ 16777216 := by omega
    have hK0 : (Sk.new n seed s).Ok := Sk.new_ok h1 h2 hseed
    clear g0 g1 g2 g3 hb
    have R8 := fun w => refNew_v n s seed h1 h2 hseed w
    have R11 := fun w => new_ok n s seed h1 h2 hseed w
    by_cases hsm : 64 < n ∨ 100 < s
    · go_enter Try.func3, Try.ntmps3
      rcases hsm with hsm | hsm
      · go_wp2_with (first | (go_at_call 8; refine (R8 _).mono ?_; rintro e v1 ⟨R, C, rfl, b1, -, -, -⟩; have b2 := b1.alloc b1.size (.cells #[.int .i64 (n : Nat), .int .i64 (s : Nat), .int .i64 0, .int .u64 seed, .slice (some ⟨R 0, 0, none⟩) n (C 0), .slice (some ⟨R 1, 0, none⟩) n (C 1), .slice (some ⟨R 2, 0, none⟩) n (C 2), .slice (some ⟨R 3, 0, none⟩) n (C 3)] 27)) | (go_at_call 10; refine (known_any _).mono ?_; rintro e v2 ⟨rfl, b3⟩))
        go_ret
        exact ⟨rfl, b2.trans (b3.mono b2.size)⟩
      · go_wp2_with (first | (go_at_call 8; refine (R8 _).mono ?_; rintro e v1 ⟨R, C, rfl, b1, -, -, -⟩; have b2 := b1.alloc b1.size (.cells #[.int .i64 (n : Nat), .int .i64 (s : Nat), .int .i64 0, .int .u64 seed, .slice (some ⟨R 0, 0, none⟩) n (C 0), .slice (some ⟨R 1, 0, none⟩) n (C 1), .slice (some ⟨R 2, 0, none⟩) n (C 2), .slice (some ⟨R 3, 0, none⟩) n (C 3)] 27)) | (go_at_call 10; refine (known_any _).mono ?_; rintro e v2 ⟨rfl, b3⟩))
        all_goals go_ret
        all_goals exact ⟨rfl, b2.trans (b3.mono b2.size)⟩
    · have hsm1 : n ≤ 64 := by omega
      have hsm2 : s ≤ 100 := by omega
      clear hsm
      go_enter Try.func3, Try.ntmps3
      go_upto_region 2 with (first | (go_at_call 8; refine (R8 _).mono ?_; rintro e v1 ⟨R, C, rfl, b1, -, -, r1⟩))
      have b2 := b1.alloc b1.size (.cells #[.int .i64 (n : Nat), .int .i64 (s : Nat), .int .i64 0, .int .u64 seed, .slice (some ⟨R 0, 0, none⟩) n (C 0), .slice (some ⟨R 1, 0, none⟩) n (C 1), .slice (some ⟨R 2, 0, none⟩) n (C 2), .slice (some ⟨R 3, 0, none⟩) n (C 3)] 27)
      have F9 := few_is (cap := cap) (hacts.below b2) hl
      clear R8
      go_wp2_with (first | (go_at_call 9; refine F9.mono ?_; rintro e v2 ⟨bb, rfl, hbb, rfl⟩; clear F9; cases bb) | (go_at_call 10; refine (known_any _).mono ?_; rintro e v2 ⟨rfl, b3⟩) | (go_at_call 11; refine (R11 _).mono ?_; rintro e v3 ⟨p, G, Q, rfl, b4, o4, s4⟩))
      · go_ret
        exact ⟨rfl, b2.trans (b3.mono b2.size)⟩
      · obtain ⟨h60, h300⟩ := hbb (by first | trivial | rfl)
        clear hbb R11 hl hlen
        have o2 : (v1.alloc (.cells #[.int .i64 (n : Nat), .int .i64 (s : Nat), .int .i64 0, .int .u64 seed, .slice (some ⟨R 0, 0, none⟩) n (C 0), .slice (some ⟨R 1, 0, none⟩) n (C 1), .slice (some ⟨R 2, 0, none⟩) n (C 2), .slice (some ⟨R 3, 0, none⟩) n (C 3)] 27)).heap[v1.heap.size]? = some (.cells (refC (Sk.new n seed s) R C) 27 (0, 0)) := heap_new rfl
        have P0 : Ps w p G Q v1.heap.size R C (Sk.new n seed s) v3 := ⟨b2.trans (b4.mono b2.size), s4, (r1.below ((Below.refl _ _).alloc (Nat.le_refl _) _)).below b4, (b4.block _ (lt_of_heap o2)).trans o2, fun i hi => Nat.le_trans b2.size (o4 i hi), b1.size⟩
        clear o2 b4 s4 r1 b1 b2 o4
        generalize v1.heap.size = X at *
        have ha0 : (Sk.new n seed s).a ≤ 0 := Nat.le_refl _
        have H300 := Lib.hid h300
        clear h300
        go_loopw [11, 13] (fun v x wr => ∃ k p G Q R C K, k ≤ len ∧ v = .pointer (some ⟨p, 0, none⟩) ∧ x = .int .i64 (k : Nat) ∧ Sk.Ok K ∧ K.a ≤ k ∧ Ps w p G Q X R C K wr) (fun _ x _ => len + 1 - (intOf x).toNat)
        case atStart => exact ⟨0, p, G, Q, R, C, (Sk.new n seed s), by omega, rfl, rfl, hK0, ha0, P0⟩
        case round =>
          obtain ⟨k, p, G, Q, R, C, K, hk, rfl, rfl, hK, hKa, P0⟩ := hrel
          clear hK0 ha0
          by_cases hkl : k < len
          · obtain ⟨B, off, rfl, ca, cb⟩ := acts_at hacts P0.bel hkl
            have hkey : (g k).size ≤ maxLen := by have := H300.out k hkl; unfold maxLen; omega
            generalize g k = key at *
            generalize f k = x0 at *
            go_upto_region 11 with fail
            refine wp_seen (Pt w p G Q X R C K K _ x0 key) (P0.act x0 key) ?_
            generalize wr.heap.size = A
            clear P0 ca cb
            intro W P
            have a0 : W.cell? ⟨A, 0, none⟩ = some (.int .i64 x0) := cell_of P.act 0
            have a1 : W.cell? ⟨A, 1, none⟩ = some (.string key) := cell_of P.act 1
            have hKa1 : K.a + 1 < 16777217 := by omega
            by_cases q0 : x0 = 0
            · subst q0
              have C12 := add_is P.s hK key hkey hKa1
              go_upto_region 20 with (first | (go_at_call 12; refine C12.mono ?_; clear C12; rintro e w1 ⟨rfl, k1, s1⟩; have P1 := P.real k1 s1))
              have C13 := refAdd_is P1.r hK key hkey hKa1
              unfold refC at C13
              have a1 : w1.cell? ⟨A, 1, none⟩ = some (.string key) := cell_of P1.act 1
              have c0 : w1.cell? ⟨X, 0, none⟩ = some (.int .i64 (K.n : Nat)) := cell_of P1.bx 0; have c1 : w1.cell? ⟨X, 1, none⟩ = some (.int .i64 (K.s : Nat)) := cell_of P1.bx 1; have c2 : w1.cell? ⟨X, 2, none⟩ = some (.int .i64 (K.a : Nat)) := cell_of P1.bx 2; have c3 : w1.cell? ⟨X, 3, none⟩ = some (.int .u64 K.seed) := cell_of P1.bx 3; have c4 : w1.cell? ⟨X, 4, none⟩ = some (.slice (some ⟨R 0, 0, none⟩) K.n (C 0)) := cell_of P1.bx 4; have c5 : w1.cell? ⟨X, 5, none⟩ = some (.slice (some ⟨R 1, 0, none⟩) K.n (C 1)) := cell_of P1.bx 5; have c6 : w1.cell? ⟨X, 6, none⟩ = some (.slice (some ⟨R 2, 0, none⟩) K.n (C 2)) := cell_of P1.bx 6; have c7 : w1.cell? ⟨X, 7, none⟩ = some (.slice (some ⟨R 3, 0, none⟩) K.n (C 3)) := cell_of P1.bx 7
              clear P a0 k1 s1
              go_upto_region 21 with (first | (go_at_call 13; refine C13.mono ?_; clear C13; rintro e w2 ⟨R2, C2, rfl, b2, -, -, r2⟩; have P2 := P1.below b2; unfold refC))
              have b3 : Below w2.heap.size w2 (w2.alloc (.cells (refC (K.add key.data.toList) R2 C2) 27)) := (Below.refl _ _).alloc (Nat.le_refl _) _
              refine wp_seen (fun W => Pt w p G Q X R C (K.add key.data.toList) K A 0 key W ∧ IsRef W R2 C2 (K.add key.data.toList) ∧ W.heap[w2.heap.size]? = some (.cells (refC (K.add key.data.toList) R2 C2) 27 (0, 0))) ⟨P2.below b3, r2.below b3, heap_new rfl⟩ ?_
              clear c0 c1 c2 c3 c4 c5 c6 c7 P1 P2 b2 b3 r2 a1
              generalize w2.heap.size = Y
              rintro W ⟨P, r2, o2⟩
              have hK2 := hK.add key.data.toList hKa1
              have hKa2 : (K.add key.data.toList).a ≤ k + 1 := by have := Sk.add_a K key.data.toList; omega
              generalize K.add key.data.toList = K2 at *
              have d0 : W.cell? ⟨Y, 0, none⟩ = some (.int .i64 (K2.n : Nat)) := cell_of o2 0; have d1 : W.cell? ⟨Y, 1, none⟩ = some (.int .i64 (K2.s : Nat)) := cell_of o2 1; have d2 : W.cell? ⟨Y, 2, none⟩ = some (.int .i64 (K2.a : Nat)) := cell_of o2 2; have d3 : W.cell? ⟨Y, 3, none⟩ = some (.int .u64 K2.seed) := cell_of o2 3; have d4 : W.cell? ⟨Y, 4, none⟩ = some (.slice (some ⟨R2 0, 0, none⟩) K2.n (C2 0)) := cell_of o2 4; have d5 : W.cell? ⟨Y, 5, none⟩ = some (.slice (some ⟨R2 1, 0, none⟩) K2.n (C2 1)) := cell_of o2 5; have d6 : W.cell? ⟨Y, 6, none⟩ = some (.slice (some ⟨R2 2, 0, none⟩) K2.n (C2 2)) := cell_of o2 6; have d7 : W.cell? ⟨Y, 7, none⟩ = some (.slice (some ⟨R2 3, 0, none⟩) K2.n (C2 3)) := cell_of o2 7
              have c0 : W.cell? ⟨X, 0, none⟩ = some (.int .i64 (K.n : Nat)) := cell_of P.bx 0; have c1 : W.cell? ⟨X, 1, none⟩ = some (.int .i64 (K.s : Nat)) := cell_of P.bx 1; have c2 : W.cell? ⟨X, 2, none⟩ = some (.int .i64 (K.a : Nat)) := cell_of P.bx 2; have c3 : W.cell? ⟨X, 3, none⟩ = some (.int .u64 K.seed) := cell_of P.bx 3; have c4 : W.cell? ⟨X, 4, none⟩ = some (.slice (some ⟨R 0, 0, none⟩) K.n (C 0)) := cell_of P.bx 4; have c5 : W.cell? ⟨X, 5, none⟩ = some (.slice (some ⟨R 1, 0, none⟩) K.n (C 1)) := cell_of P.bx 5; have c6 : W.cell? ⟨X, 6, none⟩ = some (.slice (some ⟨R 2, 0, none⟩) K.n (C 2)) := cell_of P.bx 6; have c7 : W.cell? ⟨X, 7, none⟩ = some (.slice (some ⟨R 3, 0, none⟩) K.n (C 3)) := cell_of P.bx 7
              have z0 : W.frozen? ⟨X, 0, none⟩ = false := frozen_of P.bx 0; have z1 : W.frozen? ⟨X, 1, none⟩ = false := frozen_of P.bx 1; have z2 : W.frozen? ⟨X, 2, none⟩ = false := frozen_of P.bx 2; have z3 : W.frozen? ⟨X, 3, none⟩ = false := frozen_of P.bx 3; have z4 : W.frozen? ⟨X, 4, none⟩ = false := frozen_of P.bx 4; have z5 : W.frozen? ⟨X, 5, none⟩ = false := frozen_of P.bx 5; have z6 : W.frozen? ⟨X, 6, none⟩ = false := frozen_of P.bx 6; have z7 : W.frozen? ⟨X, 7, none⟩ = false := frozen_of P.bx 7
              go_upto_region 22 with fail
              refine wp_seen (Pt w p G Q X R2 C2 K2 K2 A 0 key) (P.store r2) ?_
              clear c0 c1 c2 c3 c4 c5 c6 c7 d0 d1 d2 d3 d4 d5 d6 d7 z0 z1 z2 z3 z4 z5 z6 z7 P r2 o2 hKa hKa1
              intro W P
              generalize K.full = fl
              clear hK
              have hK := hK2
              have hKa := hKa2
              clear hK2 hKa2
              have c0 : W.cell? ⟨p, 0, none⟩ = some (.int .i64 (K2.n : Nat)) := cell_of P.s.obj 0
              have row := row_is P.s hK (r := k % 4) (Nat.mod_lt _ (by omega))
              have e4 : ((k % 4 : Nat) : Int) = (k : Int) % 4 := by omega
              rw [e4] at row
              clear e4 c0
              go_wp2_with (first | (go_at_call 17; refine row.mono ?_; clear row; rintro e w5 ⟨gg, rfl, b5, hgg, n5⟩; have P5 := P.below b5))
              have hn := hK.n16.2.1
              have hgg2 : w.heap.size ≤ gg ∧ (∀ i ∈ [gg], i ∉ blocks p G ∧ i ≠ X ∧ i ≠ A ∧ ∀ r, r < 4 → i ≠ R2 r) := by
                refine ⟨Nat.le_trans P.bel.size hgg, fun i hi => ?_⟩
                obtain rfl : i = gg := by simpa using hi
                refine ⟨fun hm => ?_, ?_, ?_, fun r hr => ?_⟩
                · have := P.s.lt i hm; omega
                · have := lt_of_heap P.bx; omega
                · have := lt_of_heap P.act; omega
                · have := (P.r r hr).lt; omega
              obtain ⟨hg1, hg2⟩ := hgg2
              have hg2 := Lib.hid hg2
              clear P b5
              go_loopw [22] (fun x wq => ∃ j : Nat, j ≤ K2.n ∧ x = .int .i64 (j : Nat) ∧ Pt w p G Q X R2 C2 K2 K2 A 0 key wq ∧ ∃ f, Nums wq .i64 3 gg K2.n K2.n f) (fun x _ => K2.n + 1 - (intOf x).toNat)
              case atStart => exact ⟨0, by omega, rfl, P5, _, n5⟩
              case round =>
                obtain ⟨j, hj, rfl, P6, f6, n6⟩ := hrel
                clear P5 n5
                by_cases hjn : j < K2.n
                · have c1 := n6.cell hjn
                  have z1 := n6.frozen j
                  have P7 : ∀ y, Pt w p G Q X R2 C2 K2 K2 A 0 key (World.setCell _ ⟨gg, j, none⟩ (.int .i64 y)) := fun y => P6.keep ((Keeps.refl [gg] _).setCell (.inl (by simp)) _) (by simpa using hg1) hg2.out
                  have n7 : ∀ y, ∃ f, Nums (World.setCell _ ⟨gg, j, none⟩ (.int .i64 y)) .i64 3 gg K2.n K2.n f := fun y => ⟨fun i => if i = j then y else f6 i, n6.set j y (by simp) (fun i hi => by simp [hi])⟩
                  generalize f6 j = z at c1
                  go_wp2_with fail
                  go_roundw
                  case rel => exact ⟨j + 1, by omega, by go_num, P7 _, n7 _⟩
                  all_goals (simp [intOf]; omega)
                · have o6 := P6.bx
                  have c4 : World.cell? _ ⟨A, 1, none⟩ = some (.string key) := cell_of P6.act 1
                  have d0 : World.cell? _ ⟨X, 0, none⟩ = some (.int .i64 (K2.n : Nat)) := cell_of o6 0
                  have d1 : World.cell? _ ⟨X, 1, none⟩ = some (.int .i64 (K2.s : Nat)) := cell_of o6 1
                  have d2 : World.cell? _ ⟨X, 2, none⟩ = some (.int .i64 (K2.a : Nat)) := cell_of o6 2
                  have d3 : World.cell? _ ⟨X, 3, none⟩ = some (.int .u64 K2.seed) := cell_of o6 3
                  have d4 : World.cell? _ ⟨X, 4, none⟩ = some (.slice (some ⟨R2 0, 0, none⟩) K2.n (C2 0)) := cell_of o6 4
                  have d5 : World.cell? _ ⟨X, 5, none⟩ = some (.slice (some ⟨R2 1, 0, none⟩) K2.n (C2 1)) := cell_of o6 5
                  have d6 : World.cell? _ ⟨X, 6, none⟩ = some (.slice (some ⟨R2 2, 0, none⟩) K2.n (C2 2)) := cell_of o6 6
                  have d7 : World.cell? _ ⟨X, 7, none⟩ = some (.slice (some ⟨R2 3, 0, none⟩) K2.n (C2 3)) := cell_of o6 7
                  clear o6
                  go_wp2_with (first | (go_at_call 18; refine (equal_is P6.s P6.r hK key hkey).mono ?_; rintro e w8 ⟨rfl, b8⟩; have P8 := P6.below b8))
                  go_roundw
                  case rel => exact ⟨k + 1, p, G, Q, R2, C2, K2, by omega, rfl, by go_num, hK, hKa, P8.ps⟩
                  all_goals (simp [intOf]; omega)
            · by_cases q1 : x0 = 1
              · subst q1
                have C14 := halve_is P.s hK
                go_upto_region 27 with (first | (go_at_call 14; refine C14.mono ?_; clear C14; rintro e w1 ⟨rfl, k1, s1⟩; have P1 := P.real k1 s1))
                have C15 := refHalve_is P1.r hK
                unfold refC at C15
                have c0 : w1.cell? ⟨X, 0, none⟩ = some (.int .i64 (K.n : Nat)) := cell_of P1.bx 0; have c1 : w1.cell? ⟨X, 1, none⟩ = some (.int .i64 (K.s : Nat)) := cell_of P1.bx 1; have c2 : w1.cell? ⟨X, 2, none⟩ = some (.int .i64 (K.a : Nat)) := cell_of P1.bx 2; have c3 : w1.cell? ⟨X, 3, none⟩ = some (.int .u64 K.seed) := cell_of P1.bx 3; have c4 : w1.cell? ⟨X, 4, none⟩ = some (.slice (some ⟨R 0, 0, none⟩) K.n (C 0)) := cell_of P1.bx 4; have c5 : w1.cell? ⟨X, 5, none⟩ = some (.slice (some ⟨R 1, 0, none⟩) K.n (C 1)) := cell_of P1.bx 5; have c6 : w1.cell? ⟨X, 6, none⟩ = some (.slice (some ⟨R 2, 0, none⟩) K.n (C 2)) := cell_of P1.bx 6; have c7 : w1.cell? ⟨X, 7, none⟩ = some (.slice (some ⟨R 3, 0, none⟩) K.n (C 3)) := cell_of P1.bx 7
                clear P a0 a1 k1 s1
                go_upto_region 28 with (first | (go_at_call 15; refine C15.mono ?_; clear C15; rintro e w2 ⟨R2, C2, rfl, b2, -, -, r2⟩; have P2 := P1.below b2; have d0 : w2.cell? ⟨X, 0, none⟩ = some (.int .i64 (K.n : Nat)) := cell_of P2.bx 0; have d1 : w2.cell? ⟨X, 1, none⟩ = some (.int .i64 (K.s : Nat)) := cell_of P2.bx 1; have d2 : w2.cell? ⟨X, 2, none⟩ = some (.int .i64 (K.a : Nat)) := cell_of P2.bx 2; have d3 : w2.cell? ⟨X, 3, none⟩ = some (.int .u64 K.seed) := cell_of P2.bx 3; have d4 : w2.cell? ⟨X, 4, none⟩ = some (.slice (some ⟨R 0, 0, none⟩) K.n (C 0)) := cell_of P2.bx 4; have d5 : w2.cell? ⟨X, 5, none⟩ = some (.slice (some ⟨R 1, 0, none⟩) K.n (C 1)) := cell_of P2.bx 5; have d6 : w2.cell? ⟨X, 6, none⟩ = some (.slice (some ⟨R 2, 0, none⟩) K.n (C 2)) := cell_of P2.bx 6; have d7 : w2.cell? ⟨X, 7, none⟩ = some (.slice (some ⟨R 3, 0, none⟩) K.n (C 3)) := cell_of P2.bx 7; have z0 : w2.frozen? ⟨X, 0, none⟩ = false := frozen_of P2.bx 0; have z1 : w2.frozen? ⟨X, 1, none⟩ = false := frozen_of P2.bx 1; have z2 : w2.frozen? ⟨X, 2, none⟩ = false := frozen_of P2.bx 2; have z3 : w2.frozen? ⟨X, 3, none⟩ = false := frozen_of P2.bx 3; have z4 : w2.frozen? ⟨X, 4, none⟩ = false := frozen_of P2.bx 4; have z5 : w2.frozen? ⟨X, 5, none⟩ = false := frozen_of P2.bx 5; have z6 : w2.frozen? ⟨X, 6, none⟩ = false := frozen_of P2.bx 6; have z7 : w2.frozen? ⟨X, 7, none⟩ = false := frozen_of P2.bx 7; unfold refC))
                refine wp_seen (Pt w p G Q X R2 C2 K.half K.half A 1 key) (P2.store r2) ?_
                clear c0 c1 c2 c3 c4 c5 c6 c7 d0 d1 d2 d3 d4 d5 d6 d7 z0 z1 z2 z3 z4 z5 z6 z7 P1 P2 b2 r2 hKa1
                intro W P
                have hK2 := hK.half
                have hKa2 : K.half.a ≤ k + 1 := by show K.a / 2 ≤ _; omega
                generalize K.half = K2 at *
                clear hK hKa
                have hK := hK2
                have hKa := hKa2
                clear hK2 hKa2
                have c0 : W.cell? ⟨p, 0, none⟩ = some (.int .i64 (K2.n : Nat)) := cell_of P.s.obj 0
                have row := row_is P.s hK (r := k % 4) (Nat.mod_lt _ (by omega))
                have e4 : ((k % 4 : Nat) : Int) = (k : Int) % 4 := by omega
                rw [e4] at row
                clear e4 c0
                go_wp2_with (first | (go_at_call 17; refine row.mono ?_; clear row; rintro e w5 ⟨gg, rfl, b5, hgg, n5⟩; have P5 := P.below b5))
                have hn := hK.n16.2.1
                have hgg2 : w.heap.size ≤ gg ∧ (∀ i ∈ [gg], i ∉ blocks p G ∧ i ≠ X ∧ i ≠ A ∧ ∀ r, r < 4 → i ≠ R2 r) := by
                  refine ⟨Nat.le_trans P.bel.size hgg, fun i hi => ?_⟩
                  obtain rfl : i = gg := by simpa using hi
                  refine ⟨fun hm => ?_, ?_, ?_, fun r hr => ?_⟩
                  · have := P.s.lt i hm; omega
                  · have := lt_of_heap P.bx; omega
                  · have := lt_of_heap P.act; omega
                  · have := (P.r r hr).lt; omega
                obtain ⟨hg1, hg2⟩ := hgg2
                have hg2 := Lib.hid hg2
                clear P b5
                go_loopw [22] (fun x wq => ∃ j : Nat, j ≤ K2.n ∧ x = .int .i64 (j : Nat) ∧ Pt w p G Q X R2 C2 K2 K2 A 1 key wq ∧ ∃ f, Nums wq .i64 3 gg K2.n K2.n f) (fun x _ => K2.n + 1 - (intOf x).toNat)
                case atStart => exact ⟨0, by omega, rfl, P5, _, n5⟩
                case round =>
                  obtain ⟨j, hj, rfl, P6, f6, n6⟩ := hrel
                  clear P5 n5
                  by_cases hjn : j < K2.n
                  · have c1 := n6.cell hjn
                    have z1 := n6.frozen j
                    have P7 : ∀ y, Pt w p G Q X R2 C2 K2 K2 A 1 key (World.setCell _ ⟨gg, j, none⟩ (.int .i64 y)) := fun y => P6.keep ((Keeps.refl [gg] _).setCell (.inl (by simp)) _) (by simpa using hg1) hg2.out
                    have n7 : ∀ y, ∃ f, Nums (World.setCell _ ⟨gg, j, none⟩ (.int .i64 y)) .i64 3 gg K2.n K2.n f := fun y => ⟨fun i => if i = j then y else f6 i, n6.set j y (by simp) (fun i hi => by simp [hi])⟩
                    generalize f6 j = z at c1
                    go_wp2_with fail
                    go_roundw
                    case rel => exact ⟨j + 1, by omega, by go_num, P7 _, n7 _⟩
                    all_goals (simp [intOf]; omega)
                  · have o6 := P6.bx
                    have c4 : World.cell? _ ⟨A, 1, none⟩ = some (.string key) := cell_of P6.act 1
                    have d0 : World.cell? _ ⟨X, 0, none⟩ = some (.int .i64 (K2.n : Nat)) := cell_of o6 0
                    have d1 : World.cell? _ ⟨X, 1, none⟩ = some (.int .i64 (K2.s : Nat)) := cell_of o6 1
                    have d2 : World.cell? _ ⟨X, 2, none⟩ = some (.int .i64 (K2.a : Nat)) := cell_of o6 2
                    have d3 : World.cell? _ ⟨X, 3, none⟩ = some (.int .u64 K2.seed) := cell_of o6 3
                    have d4 : World.cell? _ ⟨X, 4, none⟩ = some (.slice (some ⟨R2 0, 0, none⟩) K2.n (C2 0)) := cell_of o6 4
                    have d5 : World.cell? _ ⟨X, 5, none⟩ = some (.slice (some ⟨R2 1, 0, none⟩) K2.n (C2 1)) := cell_of o6 5
                    have d6 : World.cell? _ ⟨X, 6, none⟩ = some (.slice (some ⟨R2 2, 0, none⟩) K2.n (C2 2)) := cell_of o6 6
                    have d7 : World.cell? _ ⟨X, 7, none⟩ = some (.slice (some ⟨R2 3, 0, none⟩) K2.n (C2 3)) := cell_of o6 7
                    clear o6
                    go_wp2_with (first | (go_at_call 18; refine (equal_is P6.s P6.r hK key hkey).mono ?_; rintro e w8 ⟨rfl, b8⟩; have P8 := P6.below b8))
                    go_roundw
                    case rel => exact ⟨k + 1, p, G, Q, R2, C2, K2, by omega, rfl, by go_num, hK, hKa, P8.ps⟩
                    all_goals (simp [intOf]; omega)
              · have C16 := copy_is P.s hK
                go_upto_region 28 with (first | (go_at_call 16; refine C16.mono ?_; clear C16; rintro e w1 ⟨p2, G2, Q2, rfl, b1, o1, s1⟩; have P1 := P.copy b1 o1 s1; have C12 := add_is (P.s.below b1) hK key hkey hKa1; have a1 : w1.cell? ⟨A, 1, none⟩ = some (.string key) := cell_of P1.act 1) | (go_at_call 12; refine C12.mono ?_; clear C12; rintro e w2 ⟨rfl, k2, s2⟩; have P2 := P.old P1 o1 k2; have C14 := halve_is s2 (hK.add key.data.toList hKa1)) | (go_at_call 14; refine C14.mono ?_; clear C14; rintro e w3 ⟨rfl, k3, s3⟩; have P3 := P.old P2 o1 k3))
                refine wp_seen (Pt w p2 G2 Q2 X R C K K A x0 key) P3 ?_
                clear P3 P2 P1 P a0 a1 k2 k3 s1 s2 s3 b1 o1 hKa1
                intro W P
                have hKa2 : K.a ≤ k + 1 := by omega
                clear hKa
                have hKa := hKa2
                clear hKa2
                have c0 : W.cell? ⟨p2, 0, none⟩ = some (.int .i64 (K.n : Nat)) := cell_of P.s.obj 0
                have row := row_is P.s hK (r := k % 4) (Nat.mod_lt _ (by omega))
                have e4 : ((k % 4 : Nat) : Int) = (k : Int) % 4 := by omega
                rw [e4] at row
                clear e4 c0
                go_wp2_with (first | (go_at_call 17; refine row.mono ?_; clear row; rintro e w5 ⟨gg, rfl, b5, hgg, n5⟩; have P5 := P.below b5))
                have hn := hK.n16.2.1
                have hgg2 : w.heap.size ≤ gg ∧ (∀ i ∈ [gg], i ∉ blocks p2 G2 ∧ i ≠ X ∧ i ≠ A ∧ ∀ r, r < 4 → i ≠ R r) := by
                  refine ⟨Nat.le_trans P.bel.size hgg, fun i hi => ?_⟩
                  obtain rfl : i = gg := by simpa using hi
                  refine ⟨fun hm => ?_, ?_, ?_, fun r hr => ?_⟩
                  · have := P.s.lt i hm; omega
                  · have := lt_of_heap P.bx; omega
                  · have := lt_of_heap P.act; omega
                  · have := (P.r r hr).lt; omega
                obtain ⟨hg1, hg2⟩ := hgg2
                have hg2 := Lib.hid hg2
                clear P b5
                go_loopw [22] (fun x wq => ∃ j : Nat, j ≤ K.n ∧ x = .int .i64 (j : Nat) ∧ Pt w p2 G2 Q2 X R C K K A x0 key wq ∧ ∃ f, Nums wq .i64 3 gg K.n K.n f) (fun x _ => K.n + 1 - (intOf x).toNat)
                case atStart => exact ⟨0, by omega, rfl, P5, _, n5⟩
                case round =>
                  obtain ⟨j, hj, rfl, P6, f6, n6⟩ := hrel
                  clear P5 n5
                  by_cases hjn : j < K.n
                  · have c1 := n6.cell hjn
                    have z1 := n6.frozen j
                    have P7 : ∀ y, Pt w p2 G2 Q2 X R C K K A x0 key (World.setCell _ ⟨gg, j, none⟩ (.int .i64 y)) := fun y => P6.keep ((Keeps.refl [gg] _).setCell (.inl (by simp)) _) (by simpa using hg1) hg2.out
                    have n7 : ∀ y, ∃ f, Nums (World.setCell _ ⟨gg, j, none⟩ (.int .i64 y)) .i64 3 gg K.n K.n f := fun y => ⟨fun i => if i = j then y else f6 i, n6.set j y (by simp) (fun i hi => by simp [hi])⟩
                    generalize f6 j = z at c1
                    go_wp2_with fail
                    go_roundw
                    case rel => exact ⟨j + 1, by omega, by go_num, P7 _, n7 _⟩
                    all_goals (simp [intOf]; omega)
                  · have o6 := P6.bx
                    have c4 : World.cell? _ ⟨A, 1, none⟩ = some (.string key) := cell_of P6.act 1
                    have d0 : World.cell? _ ⟨X, 0, none⟩ = some (.int .i64 (K.n : Nat)) := cell_of o6 0
                    have d1 : World.cell? _ ⟨X, 1, none⟩ = some (.int .i64 (K.s : Nat)) := cell_of o6 1
                    have d2 : World.cell? _ ⟨X, 2, none⟩ = some (.int .i64 (K.a : Nat)) := cell_of o6 2
                    have d3 : World.cell? _ ⟨X, 3, none⟩ = some (.int .u64 K.seed) := cell_of o6 3
                    have d4 : World.cell? _ ⟨X, 4, none⟩ = some (.slice (some ⟨R 0, 0, none⟩) K.n (C 0)) := cell_of o6 4
                    have d5 : World.cell? _ ⟨X, 5, none⟩ = some (.slice (some ⟨R 1, 0, none⟩) K.n (C 1)) := cell_of o6 5
                    have d6 : World.cell? _ ⟨X, 6, none⟩ = some (.slice (some ⟨R 2, 0, none⟩) K.n (C 2)) := cell_of o6 6
                    have d7 : World.cell? _ ⟨X, 7, none⟩ = some (.slice (some ⟨R 3, 0, none⟩) K.n (C 3)) := cell_of o6 7
                    clear o6
                    go_wp2_with (first | (go_at_call 18; refine (equal_is P6.s P6.r hK key hkey).mono ?_; rintro e w8 ⟨rfl, b8⟩; have P8 := P6.below b8))
                    go_roundw
                    case rel => exact ⟨k + 1, p2, G2, Q2, R, C, K, by omega, rfl, by go_num, hK, hKa, P8.ps⟩
                    all_goals (simp [intOf]; omega)
          · obtain rfl : k = len := by omega
            go_wp2_with (first | (go_at_call 10; refine (known_any _).mono ?_; rintro e v2 ⟨rfl, b3⟩))
            go_ret
            exact ⟨rfl, P0.bel.trans (b3.mono P0.bel.size)⟩
  · have hno : 0 ≤ a0 → a0 ≤ 65536 → widthB a0.toNat = true → a2 < 0 ∨ 16777216 < a2 := by
      intro q1 q2 q3
      by_cases q : 0 ≤ a2 ∧ a2 ≤ 16777216
      · exact absurd ⟨q1, q3, q.1, q.2⟩ hg
      · omega
    clear hg
    have R8 := fun w => refNew_no a0 a2 a1 hno w
    clear hno hb
    go_enter Try.func3, Try.ntmps3
    go_wp2_with (first | (go_at_call 8; refine (R8 _).mono ?_; rintro e v1 ⟨rfl, b1⟩; have b2 := b1.alloc b1.size (.cells #[.int .i64 0, .int .i64 0, .int .i64 0, .int .u64 0, .slice none 0 0, .slice none 0 0, .slice none 0 0, .slice none 0 0] 27)) | (go_at_call 10; refine (known_any _).mono ?_; rintro e v5 ⟨rfl, b7⟩))
    go_ret
    exact ⟨rfl, b2.trans (b7.mono b2.size)⟩
end Go.Proofs.Ytffniljefbpoiaa
