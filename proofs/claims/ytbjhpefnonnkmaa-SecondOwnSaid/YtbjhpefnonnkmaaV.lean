/-
  The walk of SecondOwn.
-/
import Derived.Test.YtbjhpefnonnkmaaU
namespace Go.Proofs.Ytbjhpefnonnkmaa
open Go.ChangeShapes Go.WideShapes Go.ChangeAt Go.RowKit
set_option linter.unusedVariables false

/-- A block of integers; a block of marks. -/
def Ints (w : World) (g n : Nat) : Prop := ∃ cur, w.heap[g]? = some (.cells cur 29 (0, 0)) ∧ ∀ i, i < n → ∃ z, cur[i]? = some (.int .u32 z)
def Bools (w : World) (g n : Nat) : Prop := ∃ cur, w.heap[g]? = some (.cells cur 4 (0, 0)) ∧ ∀ i, i < n → ∃ z, cur[i]? = some (.bool z)
theorem Ints.of {w : World} {B n g cap : Nat} {zs : List Int} (h : w.ownsRow B 29 1 (.slice (some ⟨g, 0, none⟩) n cap) n (zs.map (Value.int .u32))) : Ints w g n := by
  obtain ⟨hl, ⟨h, _⟩ | ⟨g', c, cur, h, hb, hh, hn, hm, hs, ht⟩⟩ := h
  · cases h
  · obtain ⟨rfl, rfl⟩ : g = g' ∧ cap = c := by simpa using h
    have hz : zs.length = n := by simpa using hl
    refine ⟨cur, hh, fun i hi => ⟨zs[i]'(by omega), ?_⟩⟩
    have e : (cur.toList.take (n * 1))[i]? = (zs.map (Value.int .u32))[i]? := by rw [ht]
    rw [List.getElem?_take_of_lt (by omega)] at e
    rw [← Array.getElem?_toList, e]; simp [hz, hi]
theorem Bools.of {w : World} {B n g cap : Nat} {zs : List Bool} (h : w.ownsRow B 4 1 (.slice (some ⟨g, 0, none⟩) n cap) n (zs.map Value.bool)) : Bools w g n := by
  obtain ⟨hl, ⟨h, _⟩ | ⟨g', c, cur, h, hb, hh, hn, hm, hs, ht⟩⟩ := h
  · cases h
  · obtain ⟨rfl, rfl⟩ : g = g' ∧ cap = c := by simpa using h
    have hz : zs.length = n := by simpa using hl
    refine ⟨cur, hh, fun i hi => ⟨zs[i]'(by omega), ?_⟩⟩
    have e : (cur.toList.take (n * 1))[i]? = (zs.map Value.bool)[i]? := by rw [ht]
    rw [List.getElem?_take_of_lt (by omega)] at e
    rw [← Array.getElem?_toList, e]; simp [hz, hi]
theorem Ints.set {w : World} {g n : Nat} (h : Ints w g n) (i : Nat) (z : Int) : Ints (w.setCell ⟨g, i, none⟩ (.int .u32 z)) g n := by
  obtain ⟨cur, hh, hc⟩ := h
  refine ⟨_, heap_set hh _, fun j hj => ?_⟩
  by_cases hij : i = j
  · subst hij
    obtain ⟨y, hy⟩ := hc i hj
    have := (Array.getElem?_eq_some_iff.1 hy).1
    exact ⟨z, by simp [this]⟩
  · obtain ⟨y, hy⟩ := hc j hj
    exact ⟨y, by rw [Array.getElem?_setIfInBounds_ne hij]; exact hy⟩
theorem Bools.set {w : World} {g n : Nat} (h : Bools w g n) (i : Nat) (z : Bool) : Bools (w.setCell ⟨g, i, none⟩ (.bool z)) g n := by
  obtain ⟨cur, hh, hc⟩ := h
  refine ⟨_, heap_set hh _, fun j hj => ?_⟩
  by_cases hij : i = j
  · subst hij
    obtain ⟨y, hy⟩ := hc i hj
    have := (Array.getElem?_eq_some_iff.1 hy).1
    exact ⟨z, by simp [this]⟩
  · obtain ⟨y, hy⟩ := hc j hj
    exact ⟨y, by rw [Array.getElem?_setIfInBounds_ne hij]; exact hy⟩
theorem ne47 {W : World} {p r cap m a acap b : Nat} {R R2 : List Pl} {h : Nat} {L : List (Int × Int)} {cs : Array Value} (s : IsSec W p r cap m R h L) (row : Row W 78 a acap R2) (hb : W.heap[b]? = some (.cells cs 47 (0, 0))) : p ≠ b ∧ r ≠ b ∧ m ≠ b ∧ a ≠ b := by
  obtain ⟨cur, hc, _⟩ := row
  obtain ⟨cur2, hc2, _⟩ := s.row
  obtain ⟨es, cl, hm, _⟩ := s.mp
  refine ⟨?_, ?_, ?_, ?_⟩ <;> rintro rfl
  · rw [s.obj] at hb; simp at hb
  · rw [hc2] at hb; simp at hb
  · rw [hm] at hb; simp at hb
  · rw [hc] at hb; simp at hb
/-- What the walk holds on to while the rows that Ring has returned are changed. -/
structure Held (w : World) (p r cap m a acap n T : Nat) (R : List Pl) (h : Nat) (L : List (Int × Int)) (W : World) : Prop where
  bel : Below w.heap.size w W
  s : IsSec W p r cap m R h L
  row : Row W 78 a acap R
  t : W.heap[T]? = some (.cells #[.slice (some ⟨a, 0, none⟩) n acap, .int .i64 (h : Nat)] 47 (0, 0))
theorem Held.keep {w W W' : World} {p r cap m a acap n T : Nat} {R : List Pl} {h : Nat} {L : List (Int × Int)} (s : Held w p r cap m a acap n T R h L W) {S : List Nat} (k : Keeps S W W') (hS : ∀ i ∈ S, w.heap.size ≤ i ∧ i ≠ p ∧ i ≠ r ∧ i ≠ m ∧ i ≠ a ∧ i ≠ T) : Held w p r cap m a acap n T R h L W' :=
  ⟨s.bel.trans (k.below (fun i hi => (hS i hi).1) s.bel.size), s.s.keep k (fun q => (hS _ q).2.1 rfl) (fun q => (hS _ q).2.2.1 rfl) (fun q => (hS _ q).2.2.2.1 rfl), s.row.keep k (fun q => (hS _ q).2.2.2.2.1 rfl), k.at s.t (fun q => (hS _ q).2.2.2.2.2 rfl)⟩
/-- What the loops hold on to. -/
def Lp (P : World → Prop) (A1 A2 : Option Addr) (N B : Nat) (W : World) : Prop :=
  P W ∧ (0 < N → ∃ g1, A1 = some ⟨g1, 0, none⟩ ∧ B ≤ g1 ∧ Ints W g1 N) ∧ (0 < N → ∃ g2, A2 = some ⟨g2, 0, none⟩ ∧ B ≤ g2 ∧ Bools W g2 N)
theorem Lp.ints {P : World → Prop} {A1 A2 : Option Addr} {N B : Nat} {W : World} (h : Lp P A1 A2 N B W) (hP : ∀ W' g, B ≤ g → Keeps [g] W W' → P W') (hne : ∀ g1 g2, A1 = some ⟨g1, 0, none⟩ → A2 = some ⟨g2, 0, none⟩ → g1 ≠ g2) {j : Nat} (hj : j < N) :
    ∃ g z, A1 = some ⟨g, 0, none⟩ ∧ W.cell? ⟨g, j, none⟩ = some (.int .u32 z) ∧ W.frozen? ⟨g, j, none⟩ = false ∧ ∀ y, Lp P A1 A2 N B (W.setCell ⟨g, j, none⟩ (.int .u32 y)) := by
  obtain ⟨hPW, i1, i2⟩ := h
  obtain ⟨g1, e1, hg1, cur, hh, hc⟩ := i1 (by omega)
  obtain ⟨g2, e2, hg2, cur2, hh2, hc2⟩ := i2 (by omega)
  obtain ⟨z, hz⟩ := hc j hj
  refine ⟨g1, z, e1, (cell_of hh j).trans hz, frozen_of hh j, fun y => ⟨hP _ g1 hg1 ((Keeps.refl [g1] _).setCell (.inl (by simp)) _), fun _ => ⟨g1, e1, hg1, Ints.set ⟨cur, hh, hc⟩ j _⟩, fun _ => ⟨g2, e2, hg2, cur2, heap_other hh2 (Ne.symm (hne g1 g2 e1 e2)) _, hc2⟩⟩⟩
theorem Lp.bools {P : World → Prop} {A1 A2 : Option Addr} {N B : Nat} {W : World} (h : Lp P A1 A2 N B W) (hP : ∀ W' g, B ≤ g → Keeps [g] W W' → P W') (hne : ∀ g1 g2, A1 = some ⟨g1, 0, none⟩ → A2 = some ⟨g2, 0, none⟩ → g1 ≠ g2) {j : Nat} (hj : j < N) :
    ∃ g z, A2 = some ⟨g, 0, none⟩ ∧ W.cell? ⟨g, j, none⟩ = some (.bool z) ∧ W.frozen? ⟨g, j, none⟩ = false ∧ ∀ y, Lp P A1 A2 N B (W.setCell ⟨g, j, none⟩ (.bool y)) := by
  obtain ⟨hPW, i1, i2⟩ := h
  obtain ⟨g1, e1, hg1, cur, hh, hc⟩ := i1 (by omega)
  obtain ⟨g2, e2, hg2, cur2, hh2, hc2⟩ := i2 (by omega)
  obtain ⟨z, hz⟩ := hc2 j hj
  refine ⟨g2, z, e2, (cell_of hh2 j).trans hz, frozen_of hh2 j, fun y => ⟨hP _ g2 hg2 ((Keeps.refl [g2] _).setCell (.inl (by simp)) _), fun _ => ⟨g1, e1, hg1, cur, heap_other hh (hne g1 g2 e1 e2) _, hc⟩, fun _ => ⟨g2, e2, hg2, Bools.set ⟨cur2, hh2, hc2⟩ j _⟩⟩⟩
set_option maxRecDepth 100000 in
set_option maxHeartbeats 8000000 in
theorem secondOwn_walk (a0 : Int) (s : Option Addr) (len cap : Nat) (f g : Nat → Int) (w0 : (Lit.int .i64 a0).wf = true) (w : World) (hl : len ≤ maxLen) (hs : IsActs w [] s len f g) :
    Calls Try.prog 6 #[.int .i64 a0, .slice s len cap] w fun e w' => e = .returned (.bool true) ∧ Below w.heap.size w w' := by
  clear w0
  have hm : len ≤ 9223372036854775807 := by unfold maxLen at hl; omega
  clear hl
  by_cases hok : 1 ≤ a0 ∧ a0 ≤ 40
  · by_cases h100 : 100 < len
    · obtain ⟨h1, h2⟩ := hok
      go_enter Try.func6, Try.ntmps6
      go_wp2_with (first | (go_at_call 8; refine (known_any _).mono ?_; rintro e w4 ⟨rfl, b5⟩))
      go_ret
      exact ⟨rfl, b5⟩
    · obtain ⟨n, rfl⟩ : ∃ n : Nat, a0 = (n : Int) := ⟨a0.toNat, by omega⟩
      have h1 : 1 ≤ n := by omega
      have h2 : n ≤ 40 := by omega
      have h3 : n ≤ 1024 := by omega
      have hlen : (List.replicate n Pl.no).length = n := by simp
      clear hok
      go_enter Try.func6, Try.ntmps6
      go_upto_region 7 with (first | (go_at_call 9; refine (new_ok n h1 h3 _).mono ?_; rintro e w1 ⟨p, r, rcap, m, rfl, b1, lp, lr, lm, s1⟩) | (go_at_call 15; refine (rnew_n n h1 h3 _).mono ?_; rintro e w2 ⟨a, acap, rfl, b2, row2⟩; have s2 := s1.below b2; have bb := b1.trans (b2.mono b1.size)))
      refine wp_seen (Held w p r rcap m a acap n w2.heap.size (List.replicate n Pl.no) 0 []) ⟨bb.alloc bb.size _, s2.below ((Below.refl _ _).alloc (Nat.le_refl _) _), row2.alloc _, heap_new rfl⟩ ?_
      have hT : w.heap.size ≤ w2.heap.size := bb.size
      generalize w2.heap.size = T at hT ⊢
      intro W7 H7
      clear s1 b1 s2 b2 row2 bb
      have c0 : W7.cell? ⟨T, 0, none⟩ = some (.slice (some ⟨a, 0, none⟩) n acap) := cell_of H7.t 0
      have c1 : W7.cell? ⟨T, 1, none⟩ = some (.int .i64 0) := cell_of H7.t 1
      go_upto_region 8 with (first | (go_at_call 17; refine (plays_is (h0 := 0) (n := n) H7.s (MapOk.new n) H7.row (row_apart H7.s H7.row) hlen h3 (by omega) (hs.later H7.bel (by simp; omega)) (by omega)).mono ?_; rintro e w3 ⟨p', r', c', m', a', ac', R', h', L', rfl, k3, s3, M3, row3, hR3, hh3, na3, own3⟩; have n7 := ne47 H7.s H7.row H7.t; have t3 : w3.heap[T]? = _ := k3.at H7.t (by simp; omega); clear c0 c1; have c0 : w3.cell? ⟨T, 0, none⟩ = some (.slice (some ⟨a, 0, none⟩) n acap) := cell_of t3 0; have c1 : w3.cell? ⟨T, 1, none⟩ = some (.int .i64 0) := cell_of t3 1; have g0 : w3.frozen? ⟨T, 0, none⟩ = false := frozen_of t3 0; have g1 : w3.frozen? ⟨T, 1, none⟩ = false := frozen_of t3 1))
      have n3 := ne47 s3 row3 t3
      have b3 : Below w.heap.size w w3 := H7.bel.trans (k3.below (by simp; omega) H7.bel.size)
      refine wp_seen (Held w p' r' c' m' a' ac' n T R' h' L') ⟨(b3.setCell hT _).setCell hT _, ⟨heap_other (heap_other s3.obj n3.1 _) n3.1 _, (s3.row.other n3.2.1 _).other n3.2.1 _, (s3.mp.other n3.2.2.1 _).other n3.2.2.1 _, s3.pr, s3.pm, s3.rm⟩, (row3.other n3.2.2.2 _).other n3.2.2.2 _, heap_set (heap_set t3 _) _⟩ ?_
      intro W8 H8
      clear H7 k3 s3 row3 na3 own3 n7 t3 c0 c1 g0 g1 n3 b3 lp lr lm
      have hB8 := H8.bel.size
      have l8 := lt_of_heap H8.t
      have lp8 := lt_of_heap H8.s.obj
      have lr8 := H8.s.row.lt
      have lm8 := H8.s.mp.lt
      have la8 := H8.row.lt
      have ekk : keysOf R' = ((R'.filter (·.full)).map (·.key)).map (Value.int .u32) := by unfold keysOf; rw [List.map_map]; rfl
      have emm : marksOf R' = ((R'.filter (·.full)).map (·.mark)).map Value.bool := by unfold marksOf; rw [List.map_map]; rfl
      go_upto_region 11 with (first | (go_at_call 10; refine (ring_is H8.s (by omega)).mono ?_; rintro e w9 ⟨v1, v2, rfl, T9⟩; rw [ekk, emm] at T9))
      have H9 := H8.keep (S := []) (Keeps.of_below T9.k) (by simp)
      have hN : fulls R' ≤ n := hR3 ▸ fulls_le R'
      obtain ⟨A1, q1, rfl⟩ := own_shape T9.a
      obtain ⟨A2, q2, rfl⟩ := own_shape T9.b
      generalize hf : fulls R' = N at *
      have k1 : 0 < N → ∃ g1, A1 = some ⟨g1, 0, none⟩ ∧ W8.heap.size ≤ g1 ∧ Ints w9 g1 N := by
        intro hp
        obtain ⟨g1, c1, he, hge, _⟩ := T9.a.form hp
        obtain ⟨rfl, rfl⟩ : A1 = some ⟨g1, 0, none⟩ ∧ q1 = c1 := by simpa using he
        exact ⟨g1, rfl, hge, Ints.of T9.a⟩
      have k2 : 0 < N → ∃ g2, A2 = some ⟨g2, 0, none⟩ ∧ W8.heap.size ≤ g2 ∧ Bools w9 g2 N := by
        intro hp
        obtain ⟨g2, c2, he, hge, _⟩ := T9.b.form hp
        obtain ⟨rfl, rfl⟩ : A2 = some ⟨g2, 0, none⟩ ∧ q2 = c2 := by simpa using he
        exact ⟨g2, rfl, hge, Bools.of T9.b⟩
      have kn : ∀ g1 g2, A1 = some ⟨g1, 0, none⟩ → A2 = some ⟨g2, 0, none⟩ → g1 ≠ g2 := by
        intro g1 g2 e1 e2 e
        subst e1; subst e2; subst e
        rcases T9.ne with q | q
        · cases q
        · exact q rfl
      have hP : ∀ W W' g, (Held w p' r' c' m' a' ac' n T R' h' L' W) → W8.heap.size ≤ g → Keeps [g] W W' → (Held w p' r' c' m' a' ac' n T R' h' L' W') := fun W W' g H hg k => H.keep k (by simp; omega)
      have L9 : Lp (Held w p' r' c' m' a' ac' n T R' h' L') A1 A2 N W8.heap.size w9 := ⟨H9, k1, k2⟩
      clear T9 H8 H9 ekk emm k1 k2
      go_wp2_with fail
      go_loopw [12] (fun x wr => ∃ j : Nat, j ≤ N ∧ x = .int .i64 (j : Nat) ∧ Lp (Held w p' r' c' m' a' ac' n T R' h' L') A1 A2 N W8.heap.size wr) (fun x _ => N + 1 - (intOf x).toNat)
      case atStart => exact ⟨0, by omega, rfl, L9⟩
      case round =>
        obtain ⟨j, hj, rfl, l⟩ := hrel
        clear L9
        by_cases hjN : j < N
        · obtain ⟨g1, z, rfl, f0, fz, -⟩ := l.ints (fun W' g hg k => hP _ W' g l.1 hg k) kn hjN
          have hj' : ((j : Nat) : Int) < (N : Int) := by omega
          have j2 : j + 1 ≤ N := by omega
          go_wp2_with fail
          obtain ⟨g3, z3, e3, _, _, fin⟩ := l.ints (fun W' g hg k => hP _ W' g l.1 hg k) kn hjN
          obtain rfl : g1 = g3 := by simpa using e3
          go_roundw
          case rel => exact ⟨j + 1, j2, by go_num, fin _⟩
          all_goals (simp [intOf]; omega)
        · have hj' : ¬ ((j : Nat) : Int) < (N : Int) := by omega
          have hjd : decide (j < N) = false := by simpa using hjN
          go_wp2_with fail
          clear hj hjN hj' hjd
          go_loopw [13] (fun x wz => ∃ j : Nat, j ≤ N ∧ x = .int .i64 (j : Nat) ∧ Lp (Held w p' r' c' m' a' ac' n T R' h' L') A1 A2 N W8.heap.size wz) (fun x _ => N + 1 - (intOf x).toNat)
          case atStart => exact ⟨0, by omega, rfl, l⟩
          case round =>
            obtain ⟨j, hj, rfl, l⟩ := hrel
            by_cases hjN : j < N
            · obtain ⟨g2, z, rfl, f0, fz, -⟩ := l.bools (fun W' g hg k => hP _ W' g l.1 hg k) kn hjN
              have hj' : ((j : Nat) : Int) < (N : Int) := by omega
              have j2 : j + 1 ≤ N := by omega
              go_wp2_with fail
              obtain ⟨g3, z3, e3, _, _, fin⟩ := l.bools (fun W' g hg k => hP _ W' g l.1 hg k) kn hjN
              obtain rfl : g2 = g3 := by simpa using e3
              go_roundw
              case rel => exact ⟨j + 1, j2, by go_num, fin _⟩
              all_goals (simp [intOf]; omega)
            · have hj' : ¬ ((j : Nat) : Int) < (N : Int) := by omega
              have H := l.1
              clear kn hP l
              have c0 : World.cell? _ ⟨T, 0, none⟩ = some (.slice (some ⟨a', 0, none⟩) n ac') := cell_of H.t 0
              have c1 : World.cell? _ ⟨T, 1, none⟩ = some (.int .i64 (h' : Nat)) := cell_of H.t 1
              go_wp2_with (first | (go_at_call 16; refine (equal_is 1 H.s M3 H.row hR3 h3).mono ?_; rintro e w5 ⟨rfl, b5⟩; have bb := H.bel.trans (b5.mono H.bel.size)) | (go_at_call 8; refine (known_any _).mono ?_; rintro e w6 ⟨rfl, b6⟩))
              go_ret
              exact ⟨rfl, bb.trans (b6.mono bb.size)⟩
  · have hno : a0 < 1 ∨ 40 < a0 := by omega
    clear hok
    go_enter Try.func6, Try.ntmps6
    go_wp2_with (first | (go_at_call 8; refine (known_any _).mono ?_; rintro e w4 ⟨rfl, b5⟩))
    all_goals go_ret
    all_goals exact ⟨rfl, b5⟩
end Go.Proofs.Ytbjhpefnonnkmaa
