/-
  The walk of SecondHolds.
-/
import Derived.Test.YtbjhpefnonnkmaaY
import Derived.Deep.RegionLaw
import Derived.Deep.DeepCutAuto
import Derived.Deep.CutBlock
namespace Go.Proofs.Ytbjhpefnonnkmaa
open Go.ChangeShapes Go.WideShapes Go.ChangeAt Go.RowKit
set_option linter.unusedVariables false

/-- Two caches and a map of keys. -/
structure Sh (w : World) (p r cap m : Nat) (R : List Pl) (h : Nat) (L : List (Int × Int)) (p2 r2 cap2 m2 : Nat) (R2 : List Pl) (h2 : Nat) (L2 : List (Int × Int)) (mt : Nat) (T : List Int) (W : World) : Prop where
  bel : Below w.heap.size w W
  s1 : IsSec W p r cap m R h L
  M1 : MapOk R L
  s2 : IsSec W p2 r2 cap2 m2 R2 h2 L2
  M2 : MapOk R2 L2
  mp : Mt W mt T
  d12 : ∀ i ∈ [p, r, m], i ∉ [p2, r2, m2]
  d1 : mt ∉ [p, r, m]
  d2 : mt ∉ [p2, r2, m2]
  o1 : ∀ i ∈ [p, r, m], w.heap.size ≤ i
  o2 : ∀ i ∈ [p2, r2, m2], w.heap.size ≤ i
  om : w.heap.size ≤ mt
/-- And a call. -/
structure Sa (w : World) (p r cap m : Nat) (R : List Pl) (h : Nat) (L : List (Int × Int)) (p2 r2 cap2 m2 : Nat) (R2 : List Pl) (h2 : Nat) (L2 : List (Int × Int)) (mt : Nat) (T : List Int) (A : Nat) (x key : Int) (W : World) : Prop where
  t : Sh w p r cap m R h L p2 r2 cap2 m2 R2 h2 L2 mt T W
  act : W.heap[A]? = some (.cells #[.int .i64 x, .int .u32 key] 31 (0, 0))
section
variable {w W W' : World} {p r cap m : Nat} {R R' : List Pl} {h h' : Nat} {L L' : List (Int × Int)} {p2 r2 cap2 m2 : Nat} {R2 R2' : List Pl} {h2 h2' : Nat} {L2 L2' : List (Int × Int)} {mt : Nat} {T T' : List Int} {A : Nat} {x : Int} {key : Int}
theorem Sh.below (z : Sh w p r cap m R h L p2 r2 cap2 m2 R2 h2 L2 mt T W) (b : Below W.heap.size W W') : Sh w p r cap m R h L p2 r2 cap2 m2 R2 h2 L2 mt T W' :=
  ⟨z.bel.trans (b.mono z.bel.size), z.s1.below b, z.M1, z.s2.below b, z.M2, z.mp.keep (Keeps.of_below (S := []) b) (by simp), z.d12, z.d1, z.d2, z.o1, z.o2, z.om⟩
theorem Sh.one (z : Sh w p r cap m R h L p2 r2 cap2 m2 R2 h2 L2 mt T W) (k : Keeps [p, r, m] W W') (s : IsSec W' p r cap m R' h' L') (M : MapOk R' L') : Sh w p r cap m R' h' L' p2 r2 cap2 m2 R2 h2 L2 mt T W' :=
  ⟨z.bel.trans (k.below z.o1 z.bel.size), s, M, z.s2.keep k (fun q => z.d12 _ q (by simp)) (fun q => z.d12 _ q (by simp)) (fun q => z.d12 _ q (by simp)), z.M2, z.mp.keep k z.d1, z.d12, z.d1, z.d2, z.o1, z.o2, z.om⟩
theorem Sh.two (z : Sh w p r cap m R h L p2 r2 cap2 m2 R2 h2 L2 mt T W) (k : Keeps [p2, r2, m2] W W') (s : IsSec W' p2 r2 cap2 m2 R2' h2' L2') (M : MapOk R2' L2') : Sh w p r cap m R h L p2 r2 cap2 m2 R2' h2' L2' mt T W' :=
  ⟨z.bel.trans (k.below z.o2 z.bel.size), z.s1.keep k (z.d12 _ (by simp)) (z.d12 _ (by simp)) (z.d12 _ (by simp)), z.M1, s, M, z.mp.keep k z.d2, z.d12, z.d1, z.d2, z.o1, z.o2, z.om⟩
theorem Sh.map (z : Sh w p r cap m R h L p2 r2 cap2 m2 R2 h2 L2 mt T W) (k : Keeps [mt] W W') (t : Mt W' mt T') : Sh w p r cap m R h L p2 r2 cap2 m2 R2 h2 L2 mt T' W' := by
  have ne : ∀ i ∈ [p, r, m], i ∉ [mt] := fun i hi hj => z.d1 (by rw [← List.mem_singleton.1 hj]; exact hi)
  have ne2 : ∀ i ∈ [p2, r2, m2], i ∉ [mt] := fun i hi hj => z.d2 (by rw [← List.mem_singleton.1 hj]; exact hi)
  exact ⟨z.bel.trans (k.below (by simpa using z.om) z.bel.size), z.s1.keep k (ne _ (by simp)) (ne _ (by simp)) (ne _ (by simp)), z.M1, z.s2.keep k (ne2 _ (by simp)) (ne2 _ (by simp)) (ne2 _ (by simp)), z.M2, t, z.d12, z.d1, z.d2, z.o1, z.o2, z.om⟩
theorem Sh.nA (z : Sh w p r cap m R h L p2 r2 cap2 m2 R2 h2 L2 mt T W) {A : Nat} {cs : Array Value} {T0 : TypeId} (h : W.heap[A]? = some (.cells cs T0 (0, 0))) (h1 : T0 ≠ 57) (h2 : T0 ≠ 63) : A ∉ [p, r, m] ∧ A ∉ [p2, r2, m2] ∧ A ∉ [mt] := by
  obtain ⟨c1, k1, _⟩ := z.s1.row
  obtain ⟨c2, k2, _⟩ := z.s2.row
  obtain ⟨e1, l1, q1, _⟩ := z.s1.mp
  obtain ⟨e2, l2, q2, _⟩ := z.s2.mp
  obtain ⟨e3, l3, q3, _⟩ := z.mp
  refine ⟨fun q => ?_, fun q => ?_, fun q => ?_⟩
  · simp at q
    rcases q with rfl | rfl | rfl
    · rw [z.s1.obj] at h; simp at h; exact h1 h.2.symm
    · rw [k1] at h; simp at h; exact h2 h.2.symm
    · rw [q1] at h; simp at h
  · simp at q
    rcases q with rfl | rfl | rfl
    · rw [z.s2.obj] at h; simp at h; exact h1 h.2.symm
    · rw [k2] at h; simp at h; exact h2 h.2.symm
    · rw [q2] at h; simp at h
  · simp at q
    subst q
    rw [q3] at h; simp at h
theorem Sh.other {I : Nat} (z : Sh w p r cap m R h L p2 r2 cap2 m2 R2 h2 L2 mt T W) (k : Keeps [I] W W') (h0 : w.heap.size ≤ I) (h1 : I ∉ [p, r, m] ∧ I ∉ [p2, r2, m2] ∧ I ≠ mt) : Sh w p r cap m R h L p2 r2 cap2 m2 R2 h2 L2 mt T W' :=
  ⟨z.bel.trans (k.below (by simpa using h0) z.bel.size), z.s1.keep k (fun q => h1.1 (by simp at q; simp [← q])) (fun q => h1.1 (by simp at q; simp [← q])) (fun q => h1.1 (by simp at q; simp [← q])), z.M1, z.s2.keep k (fun q => h1.2.1 (by simp at q; simp [← q])) (fun q => h1.2.1 (by simp at q; simp [← q])) (fun q => h1.2.1 (by simp at q; simp [← q])), z.M2, z.mp.keep k (by simpa using Ne.symm h1.2.2), z.d12, z.d1, z.d2, z.o1, z.o2, z.om⟩
theorem Sa.below (z : Sa w p r cap m R h L p2 r2 cap2 m2 R2 h2 L2 mt T A x key W) (b : Below W.heap.size W W') : Sa w p r cap m R h L p2 r2 cap2 m2 R2 h2 L2 mt T A x key W' := ⟨z.t.below b, (b.block _ (lt_of_heap z.act)).trans z.act⟩
theorem Sa.one (z : Sa w p r cap m R h L p2 r2 cap2 m2 R2 h2 L2 mt T A x key W) (k : Keeps [p, r, m] W W') (s : IsSec W' p r cap m R' h' L') (M : MapOk R' L') : Sa w p r cap m R' h' L' p2 r2 cap2 m2 R2 h2 L2 mt T A x key W' := ⟨z.t.one k s M, k.at z.act (z.t.nA z.act (by decide) (by decide)).1⟩
theorem Sa.map (z : Sa w p r cap m R h L p2 r2 cap2 m2 R2 h2 L2 mt T A x key W) (k : Keeps [mt] W W') (t : Mt W' mt T') : Sa w p r cap m R h L p2 r2 cap2 m2 R2 h2 L2 mt T' A x key W' := ⟨z.t.map k t, k.at z.act (z.t.nA z.act (by decide) (by decide)).2.2⟩
theorem Sh.act (z : Sh w p r cap m R h L p2 r2 cap2 m2 R2 h2 L2 mt T W) (x key : Int) : Sa w p r cap m R h L p2 r2 cap2 m2 R2 h2 L2 mt T W.heap.size x key (W.alloc (.cells #[.int .i64 x, .int .u32 key] 31)) :=
  ⟨z.below ((Below.refl _ _).alloc (Nat.le_refl _) _), heap_new rfl⟩
end
theorem acts_at {w W : World} {s : Option Addr} {len : Nat} {f g : Nat → Int} (h : IsActs w [] s len f g) (b : Below w.heap.size w W) {k : Nat} (hk : k < len) : ∃ bb off, s = some ⟨bb, off, none⟩ ∧ W.cell? ⟨bb, off + k * 2, none⟩ = some (.int .i64 (f k)) ∧ W.cell? ⟨bb, off + k * 2 + 1, none⟩ = some (.int .u32 (g k)) := by
  obtain ⟨B, off, e, hb, _, hc⟩ := h (by omega)
  exact ⟨B, off, e, (b.cell (p := ⟨B, off + k * 2, none⟩) hb).trans (hc k hk).1, (b.cell (p := ⟨B, off + k * 2 + 1, none⟩) hb).trans (hc k hk).2⟩
/-- What Ring has handed back: keys and marks of the full places. -/
def RowsAt (A1 A2 : Option Addr) (F : List Pl) (B : Nat) (W : World) : Prop :=
  ∀ (j : Nat) (x : Pl), F[j]? = some x → ∃ g1 g2, A1 = some ⟨g1, 0, none⟩ ∧ A2 = some ⟨g2, 0, none⟩ ∧ B ≤ g1 ∧ B ≤ g2 ∧ g1 < W.heap.size ∧ g2 < W.heap.size ∧ W.cell? ⟨g1, j, none⟩ = some (.int .u32 x.key) ∧ W.cell? ⟨g2, j, none⟩ = some (.bool x.mark)
theorem RowsAt.keep {A1 A2 : Option Addr} {F : List Pl} {B : Nat} {W W' : World} {S : List Nat} (h : RowsAt A1 A2 F B W) (k : Keeps S W W') (hS : ∀ i ∈ S, i < B) : RowsAt A1 A2 F B W' := fun j x hx => by
  obtain ⟨g1, g2, e1, e2, b1, b2, l1, l2, c1, c2⟩ := h j x hx
  have n1 : g1 ∉ S := fun q => by have := hS _ q; omega
  have n2 : g2 ∉ S := fun q => by have := hS _ q; omega
  refine ⟨g1, g2, e1, e2, b1, b2, Nat.lt_of_lt_of_le l1 k.size, Nat.lt_of_lt_of_le l2 k.size, ?_, ?_⟩
  · rw [← c1]; unfold World.cell?; rw [show W'.heap[(⟨g1, j, none⟩ : Addr).block]? = W.heap[(⟨g1, j, none⟩ : Addr).block]? from k.block g1 l1 n1]
  · rw [← c2]; unfold World.cell?; rw [show W'.heap[(⟨g2, j, none⟩ : Addr).block]? = W.heap[(⟨g2, j, none⟩ : Addr).block]? from k.block g2 l2 n2]
theorem own_at {w : World} {B n c : Nat} {e : TypeId} {A : Option Addr} {xs : List Value} (h : w.ownsRow B e 1 (.slice A n c) n xs) {j : Nat} {u : Value} (hu : xs[j]? = some u) : ∃ g, A = some ⟨g, 0, none⟩ ∧ B ≤ g ∧ g < w.heap.size ∧ w.cell? ⟨g, j, none⟩ = some u := by
  obtain ⟨hl, ⟨h, h0⟩ | ⟨g', c', cur, h, hb, hh, hn, hm, hs, ht⟩⟩ := h
  · obtain ⟨rfl, rfl, rfl⟩ : A = none ∧ n = 0 ∧ c = 0 := by simpa using h
    have : j < xs.length := (List.getElem?_eq_some_iff.1 hu).1
    omega
  · obtain ⟨rfl, rfl⟩ : A = some ⟨g', 0, none⟩ ∧ c = c' := by simpa using h
    have hj : j < xs.length := (List.getElem?_eq_some_iff.1 hu).1
    refine ⟨g', rfl, hb, lt_of_heap hh, ?_⟩
    rw [cell_of hh, ← hu, ← ht, List.getElem?_take_of_lt (by omega)]; simp
/-- How many of the first places are marked. -/
def cntM (F : List Pl) (j : Nat) : Nat := (F.take j).countP (·.mark)
theorem cntM_succ {F : List Pl} {j : Nat} {x : Pl} (h : F[j]? = some x) : cntM F (j + 1) = cntM F j + if x.mark = true then 1 else 0 := by
  unfold cntM
  have hj : j < F.length := (List.getElem?_eq_some_iff.1 h).1
  rw [List.take_add_one, h]
  simp [List.countP_append, List.countP_cons]
theorem cntM_le (F : List Pl) (j : Nat) : cntM F j ≤ j := by
  unfold cntM
  exact Nat.le_trans List.countP_le_length (by simp; omega)
/-- What the loops of a request hold on to. -/
structure Rq (w : World) (p r cap m : Nat) (R : List Pl) (h : Nat) (L : List (Int × Int)) (p2 r2 cap2 m2 : Nat) (R2 : List Pl) (h2 : Nat) (L2 : List (Int × Int)) (mt : Nat) (T : List Int) (A : Nat) (x key : Int) (X : Nat) (hit left : Bool) (out : Int) (A1 A2 : Option Addr) (F : List Pl) (B : Nat) (W : World) : Prop where
  t : Sa w p r cap m R h L p2 r2 cap2 m2 R2 h2 L2 mt T A x key W
  x : W.heap[X]? = some (.cells #[.bool hit, .bool left, .int .u32 out] 37 (0, 0))
  rows : RowsAt A1 A2 F B W
theorem Rq.drew {w W : World} {p r cap m : Nat} {R : List Pl} {h : Nat} {L : List (Int × Int)} {p2 r2 cap2 m2 : Nat} {R2 : List Pl} {h2 : Nat} {L2 : List (Int × Int)} {mt : Nat} {T : List Int} {A : Nat} {x key : Int} {X : Nat} {hit left : Bool} {out : Int} {A1 A2 : Option Addr} {F : List Pl} {B : Nat} (q : Rq w p r cap m R h L p2 r2 cap2 m2 R2 h2 L2 mt T A x key X hit left out A1 A2 F B W) : Rq w p r cap m R h L p2 r2 cap2 m2 R2 h2 L2 mt T A x key X hit left out A1 A2 F B W.drew :=
  ⟨q.t.below (Below.refl _ _).drew, q.x, q.rows.keep (S := []) (Keeps.refl _ _).drew (by simp)⟩
set_option maxRecDepth 100000 in
set_option maxHeartbeats 16000000 in
theorem secondHolds_walk (a0 : Int) (sl : Option Addr) (len scap : Nat) (f g : Nat → Int) (w0 : (Lit.int .i64 a0).wf = true) (w : World) (hl : len ≤ maxLen) (hs : IsActs w [] sl len f g) :
    Calls Try.prog 3 #[.int .i64 a0, .slice sl len scap] w fun e w' => e = .returned (.bool true) ∧ Below w.heap.size w w' := by
  clear w0
  have hm : len ≤ 9223372036854775807 := by unfold maxLen at hl; omega
  clear hl
  by_cases hok : 1 ≤ a0 ∧ a0 ≤ 40
  · by_cases h100 : 100 < len
    · obtain ⟨h1, h2⟩ := hok
      go_enter Try.func3, Try.ntmps3
      go_wp2_with (first | (go_at_call 8; refine (known_any _).mono ?_; rintro e w4 ⟨rfl, b5⟩))
      go_ret
      exact ⟨rfl, b5⟩
    · obtain ⟨n, rfl⟩ : ∃ n : Nat, a0 = (n : Int) := ⟨a0.toNat, by omega⟩
      have h1 : 1 ≤ n := by omega
      have hn40 : n ≤ 40 := by omega
      have h3 : n ≤ 1024 := by omega
      clear hok
      have hmk := make_map28
      go_enter Try.func3, Try.ntmps3
      have N1 := fun w => new_ok n h1 h3 w
      have N2 := fun w => new_ok n h1 h3 w
      go_wp2_with (first | (go_at_call 9; refine (N1 _).mono ?_; clear N1; rintro e w1 ⟨p, r, cap, m, rfl, b1, lp, lr, lm, s1⟩) | (go_at_call 9; refine (N2 _).mono ?_; clear N2; rintro e w2 ⟨p2, r2, cap2, m2, rfl, b2, lp2, lr2, lm2, s2⟩))
      have kp := lt_of_heap s1.obj
      have kr := s1.row.lt
      have km := s1.mp.lt
      have kp2 := lt_of_heap s2.obj
      have kr2 := s2.row.lt
      have km2 := s2.mp.lt
      have bz := b1.size
      have bz2 := b2.size
      have b12 := b1.trans (b2.mono b1.size)
      have Z0 : Sh w p r cap m (List.replicate n Pl.no) 0 [] p2 r2 cap2 m2 (List.replicate n Pl.no) 0 [] w2.heap.size [] (w2.alloc (.map #[] 0)) :=
        ⟨b12.alloc b12.size _, (s1.below b2).below ((Below.refl _ _).alloc (Nat.le_refl _) _), MapOk.new n, s2.below ((Below.refl _ _).alloc (Nat.le_refl _) _), MapOk.new n, Mt.new, by simp; omega, by simp; omega, by simp; omega, by simp; omega, by simp; omega, b12.size⟩
      have hlen : (List.replicate n Pl.no).length = n := by simp
      have hH0 : Has (List.replicate n Pl.no) [] := by
        unfold Has
        rw [List.nil_perm]
        apply List.eq_nil_of_length_eq_zero
        rw [keysC_length]; unfold fulls
        simp [List.countP_replicate, Pl.no]
      clear b1 b2 s1 s2 kp kr km kp2 kr2 km2 bz bz2 b12 lp lr lm lp2 lr2 lm2
      generalize w2.heap.size = mt at *
      go_loopw [10] (fun x wr => ∃ k T R h L R2 h2 L2, k ≤ len ∧ x = .int .i64 (k : Nat) ∧ List.length R = n ∧ h < n ∧ Has R T ∧ Line n k R2 h2 ∧ Sh w p r cap m R h L p2 r2 cap2 m2 R2 h2 L2 mt T wr) (fun x _ => len + 1 - (intOf x).toNat)
      case atStart => exact ⟨0, [], _, 0, [], _, 0, [], by omega, rfl, hlen, by omega, hH0, Line.new, Z0⟩
      case round =>
        obtain ⟨k, T, R, h, L, R2, h2, L2, hk, rfl, hR, hh, hH, hLi, Z0⟩ := hrel
        clear hlen hH0
        by_cases hkl : k < len
        · obtain ⟨B, off, rfl, ca, cb⟩ := acts_at hs Z0.bel hkl
          generalize g k = key at *
          generalize f k = x0 at *
          have HLi := Lib.hid hLi
          have HH := Lib.hid hH
          clear hLi hH
          go_upto_region 12 with fail
          refine wp_seen (Sa w p r cap m R h L p2 r2 cap2 m2 R2 h2 L2 mt T _ x0 key) (Z0.act x0 key) ?_
          generalize wr.heap.size = A
          clear Z0 ca cb
          intro W Z
          have a0 : W.cell? ⟨A, 0, none⟩ = some (.int .i64 x0) := cell_of Z.act 0
          have a1 : W.cell? ⟨A, 1, none⟩ = some (.int .u32 key) := cell_of Z.act 1
          go_upto_block 2 with fail
          go_cut [17] (fun ev wx => ∃ T R h L, List.length R = n ∧ h < n ∧ Has R T ∧ Sa w p r cap m R h L p2 r2 cap2 m2 R2 h2 L2 mt T A x0 key wx)
          case first => as_aux_lemma =>
            by_cases q0 : x0 = 0
            · as_aux_lemma =>
              subst q0
              go_upto_region 15 with (first | (go_at_call 10; refine (ring_is Z.t.s1 (by omega)).mono ?_; rintro e w3 ⟨v1, v2, rfl, T3⟩))
              obtain ⟨A1, c1, rfl⟩ := own_shape T3.a
              obtain ⟨A2, c2, rfl⟩ := own_shape T3.b
              have Z3 := Z.below T3.k
              have hFl : (R.filter (·.full)).length = fulls R := by unfold fulls; rw [List.countP_eq_length_filter]
              have rows : RowsAt A1 A2 (R.filter (·.full)) W.heap.size w3 := fun j x hx => by
                obtain ⟨g1, e1, b1, l1, d1⟩ := own_at T3.a (j := j) (u := .int .u32 x.key) (by unfold keysOf; rw [List.getElem?_map, hx]; rfl)
                obtain ⟨g2, e2, b2, l2, d2⟩ := own_at T3.b (j := j) (u := .bool x.mark) (by unfold marksOf; rw [List.getElem?_map, hx]; rfl)
                exact ⟨g1, g2, e1, e2, b1, b2, l1, l2, d1, d2⟩
              have hN : fulls R ≤ n := hR ▸ fulls_le R
              have hAR := Z.t.M1.apart
              have hWp : ∀ i ∈ [p, r, m], i < W.heap.size := by
                have e1 := lt_of_heap Z.t.s1.obj
                have e2 := Z.t.s1.row.lt
                have e3 := Z.t.s1.mp.lt
                simp; omega
              generalize W.heap.size = BW at *
              clear Z T3 a0 a1
              have F0 : R.filter (·.full) = R.filter (·.full) := rfl
              clear F0
              generalize hF : R.filter (·.full) = F at *
              have HF := Lib.hid hF
              clear hF
              generalize hN2 : fulls R = N at *
              have HN := Lib.hid hN2
              clear hN2
              have Hrows := Lib.hid rows
              have HWp := Lib.hid hWp
              clear rows hWp
              go_wp2_with fail
              go_loopw [14, 15] (fun cv x wz => ∃ j : Nat, j ≤ N ∧ x = .int .i64 (j : Nat) ∧ cv = .int .i64 ((cntM F j : Nat) : Int) ∧ wz = w3) (fun _ x _ => N + 1 - (intOf x).toNat)
              case atStart => exact ⟨0, by omega, rfl, rfl, rfl⟩
              case round => as_aux_lemma =>
                obtain ⟨j, hj, rfl, rfl, rfl⟩ := hrel
                by_cases hjN : j < N
                · obtain ⟨y, hy⟩ : ∃ y, F[j]? = some y := ⟨_, List.getElem?_eq_getElem (by omega)⟩
                  obtain ⟨g1, g2, rfl, rfl, _, _, _, _, _, cm⟩ := Hrows.out j y hy
                  have hc1 := cntM_succ hy
                  have hc2 := cntM_le F j
                  have Hc := Lib.hid hc1
                  clear hc1
                  obtain ⟨yk, yf, ym⟩ := y
                  cases ym with
                  | true => as_aux_lemma =>
                    go_wp2_with fail
                    go_roundw
                    case rel => exact ⟨j + 1, by omega, by go_num, by rw [Hc.out]; simp, by simp⟩
                    all_goals (simp [intOf]; omega)
                  | false => as_aux_lemma =>
                    go_wp2_with fail
                    go_roundw
                    case rel => exact ⟨j + 1, by omega, by go_num, by rw [Hc.out]; simp, by simp⟩
                    all_goals (simp [intOf]; omega)
                · obtain rfl : N = j := by omega
                  have hcnt : cntM F N = F.countP (·.mark) := by unfold cntM; rw [List.take_of_length_le (by omega)]
                  have Hcnt := Lib.hid hcnt
                  clear hcnt
                  have C11 := use_is key Z3.t.s1 Z3.t.M1 (by omega) (by omega)
                  have LW := use_law key hAR (by omega : h < R.length)
                  generalize useR R h key = o at C11 LW
                  obtain ⟨oR, oh, hit, left, out⟩ := o
                  have hoR : oR.length = n := LW.len.trans hR
                  have hoh : oh < n := by have := LW.hand; rw [hR] at this; exact this
                  have hdec : decide (key ∈ T) = hit := by rw [show hit = _ from LW.hit]; simp [HH.out.mem key]
                  have a1 : World.cell? _ ⟨A, 1, none⟩ = some (.int .u32 key) := cell_of Z3.act 1
                  go_upto_region 22 with (first | (go_at_call 11; refine C11.mono ?_; clear C11; rintro e w4 ⟨rfl, k4, L4, s4, M4⟩))
                  have Z4 := Z3.one k4 s4 M4
                  have rows4 := Hrows.out.keep k4 HWp.out
                  have b5 : Below w4.heap.size w4 (w4.alloc (.cells #[.bool hit, .bool left, .int .u32 out] 37)) := (Below.refl _ _).alloc (Nat.le_refl _) _
                  refine wp_seen (Rq w p r cap m oR oh L4 p2 r2 cap2 m2 R2 h2 L2 mt T A 0 key w4.heap.size hit left out A1 A2 F BW) ⟨Z4.below b5, heap_new rfl, rows4.keep (S := []) (Keeps.of_below b5) (by simp)⟩ ?_
                  clear Z4 rows4 b5 Z3 k4 s4 M4 a1
                  generalize w4.heap.size = X
                  intro W z
                  have x0 : W.cell? ⟨X, 0, none⟩ = some (.bool hit) := cell_of z.x 0
                  have x1 : W.cell? ⟨X, 1, none⟩ = some (.bool left) := cell_of z.x 1
                  have x2 : W.cell? ⟨X, 2, none⟩ = some (.int .u32 out) := cell_of z.x 2
                  have a1 : W.cell? ⟨A, 1, none⟩ = some (.int .u32 key) := cell_of z.t.act 1
                  have lk1 := z.t.t.mp.look key
                  rw [hdec] at lk1
                  have HLW := Lib.hid LW
                  cases left with
                  | false => as_aux_lemma =>
                    obtain rfl : out = 0 := LW.none rfl
                    clear LW
                    cases hit with
                    | true =>
                    go_wp2_with fail
                    go_loopw [18] (fun x wz => ∃ j : Nat, j ≤ N ∧ x = .int .i64 (j : Nat) ∧ Rq w p r cap m oR oh L4 p2 r2 cap2 m2 R2 h2 L2 mt T A 0 key X true false 0 A1 A2 F BW wz) (fun x _ => N + 1 - (intOf x).toNat)
                    case atStart => exact ⟨0, by omega, rfl, z⟩
                    case round => as_aux_lemma =>
                      obtain ⟨j, hj, rfl, z⟩ := hrel
                      have x1 : World.cell? _ ⟨X, 1, none⟩ = some (.bool false) := cell_of z.x 1
                      by_cases hjN : j < N
                      · go_upto_region 27 with fail
                        go_region
                        go_wp2_with fail
                        go_roundw
                        case rel => exact ⟨j + 1, by omega, by go_num, z.drew⟩
                        all_goals (simp [intOf]; omega)
                      · have a1 : World.cell? _ ⟨A, 1, none⟩ = some (.int .u32 key) := cell_of z.t.act 1
                        obtain ⟨w6, pt, mp6, k6⟩ := z.t.t.mp.put key
                        have Z6 := z.t.map k6 mp6
                        clear z
                        go_wp2_with fail
                        go_meet
                        case rel => exact ⟨_, oR, oh, L4, hoR, hoh, (by have := HLW.out.stay rfl; unfold addT; rw [if_pos (of_decide_eq_true hdec)]; exact HH.out.trans this.symm), Z6⟩
                    | false =>
                    go_wp2_with fail
                    go_loopw [18] (fun x wz => ∃ j : Nat, j ≤ N ∧ x = .int .i64 (j : Nat) ∧ Rq w p r cap m oR oh L4 p2 r2 cap2 m2 R2 h2 L2 mt T A 0 key X false false 0 A1 A2 F BW wz) (fun x _ => N + 1 - (intOf x).toNat)
                    case atStart => exact ⟨0, by omega, rfl, z⟩
                    case round => as_aux_lemma =>
                      obtain ⟨j, hj, rfl, z⟩ := hrel
                      have x1 : World.cell? _ ⟨X, 1, none⟩ = some (.bool false) := cell_of z.x 1
                      by_cases hjN : j < N
                      · go_upto_region 27 with fail
                        go_region
                        go_wp2_with fail
                        go_roundw
                        case rel => exact ⟨j + 1, by omega, by go_num, z.drew⟩
                        all_goals (simp [intOf]; omega)
                      · have a1 : World.cell? _ ⟨A, 1, none⟩ = some (.int .u32 key) := cell_of z.t.act 1
                        obtain ⟨w6, pt, mp6, k6⟩ := z.t.t.mp.put key
                        have Z6 := z.t.map k6 mp6
                        clear z
                        go_wp2_with fail
                        go_meet
                        case rel => exact ⟨_, oR, oh, L4, hoR, hoh, (by have := HLW.out.come rfl rfl; unfold addT; rw [if_neg (of_decide_eq_false hdec)]; exact (List.perm_append_comm.trans (HH.out.cons key)).trans this.symm), Z6⟩
                  | true => as_aux_lemma =>
                    obtain ⟨hl1, hl2, hl3⟩ := LW.left rfl
                    obtain rfl : hit = false := hl1
                    clear LW
                    have hmo : decide (out ∈ T) = true := decide_eq_true ((HH.out.mem out).2 hl2)
                    have lk2 := z.t.t.mp.look out
                    rw [hmo] at lk2
                    have hNn : N = n := by rw [← hR, ← hl3]; exact HN.out.symm
                    have hF9 : ∀ (i : Nat) (y : Pl), F[i]? = some y → R[i]? = some y ∧ y.full = true := by
                      have hfl : R.filter (·.full) = R := List.filter_eq_self.2 (fun y hy => by
                        have := List.countP_eq_length.1 (show R.countP (·.full) = R.length from hl3)
                        exact this y hy)
                      intro i y hy
                      rw [← HF.out, hfl] at hy
                      have := List.countP_eq_length.1 (show R.countP (·.full) = R.length from hl3)
                      exact ⟨hy, this y (List.mem_of_getElem? hy)⟩
                    have hmk9 : cntM F N = marks R := by
                      have hfl : R.filter (·.full) = R := List.filter_eq_self.2 (fun y hy => by
                        have := List.countP_eq_length.1 (show R.countP (·.full) = R.length from hl3)
                        exact this y hy)
                      rw [Hcnt.out, ← HF.out, hfl]; rfl
                    have Hbad : RowKit.Hid (∀ (i : Nat) (y : Pl), F[i]? = some y → y.key = out → y.mark = true → ¬ ((cntM F N : Nat) : Int) < (n : Int)) := Lib.hid (fun i y hy hk hmm => by
                      obtain ⟨q1, q2⟩ := hF9 i y hy
                      have := HLW.out.marked rfl i y q1 q2 hk hmm
                      rw [hmk9, this, hR]; omega)
                    clear hF9 hmk9
                    have hdec2 := Lib.hid hdec
                    subst hNn
                    go_wp2_with fail
                    clear hdec lk1 lk2 x0 x1 x2 a1
                    go_loopw [18] (fun x wz => ∃ j : Nat, j ≤ N ∧ x = .int .i64 (j : Nat) ∧ Rq w p r cap m oR oh L4 p2 r2 cap2 m2 R2 h2 L2 mt T A 0 key X false true out A1 A2 F BW wz) (fun x _ => N + 1 - (intOf x).toNat)
                    case atStart => exact ⟨0, by omega, rfl, z⟩
                    case round => as_aux_lemma =>
                      obtain ⟨j, hj, rfl, z⟩ := hrel
                      have x1 : World.cell? _ ⟨X, 1, none⟩ = some (.bool true) := cell_of z.x 1
                      have x2 : World.cell? _ ⟨X, 2, none⟩ = some (.int .u32 out) := cell_of z.x 2
                      by_cases hjN : j < N
                      · obtain ⟨y, hy⟩ : ∃ y, F[j]? = some y := ⟨_, List.getElem?_eq_getElem (by omega)⟩
                        obtain ⟨g1, g2, rfl, rfl, _, _, _, _, ck, cm⟩ := z.rows j y hy
                        have hbad := Hbad.out j y hy
                        obtain ⟨yk, yf, ym⟩ := y
                        by_cases e1 : yk = out
                        · subst e1
                          cases ym with
                          | true =>
                            have hb := hbad rfl rfl
                            have hb2 : decide (((cntM F N : Nat) : Int) < (N : Int)) = false := decide_eq_false (by omega)
                            clear hbad
                            generalize cntM F N = cc at *
                            go_upto_region 27 with fail
                            go_region
                            go_wp2_with fail
                            go_roundw
                            case rel => exact ⟨j + 1, by omega, by go_num, z.drew⟩
                            all_goals (simp [intOf]; omega)
                          | false =>
                            clear hbad
                            go_upto_region 27 with fail
                            go_region
                            go_wp2_with fail
                            go_roundw
                            case rel => exact ⟨j + 1, by omega, by go_num, z.drew⟩
                            all_goals (simp [intOf]; omega)
                        · have e2 : (yk == out) = false := by simpa using e1
                          clear hbad
                          go_upto_region 27 with fail
                          go_region
                          go_wp2_with fail
                          go_roundw
                          case rel => exact ⟨j + 1, by omega, by go_num, z.drew⟩
                          all_goals (simp [intOf]; omega)
                      · obtain ⟨w6, T6, pd, mp6, k6, hd1, hd2⟩ := z.t.t.mp.del out
                        have Z6 := z.t.map k6 mp6
                        have a1 : w6.cell? ⟨A, 1, none⟩ = some (.int .u32 key) := cell_of Z6.act 1
                        obtain ⟨w7, pt, mp7, k7⟩ := Z6.t.mp.put key
                        have Z7 := Z6.map k7 mp7
                        have hperm : Has oR (addT T6 key) := by
                          have g1 := HLW.out.go rfl
                          have g2 := hd2 ((HH.out.mem out).2 hl2)
                          have hkT : key ∉ T := of_decide_eq_false hdec2.out
                          have hk6 : key ∉ T6 := fun q => hkT (g2.mem_iff.1 (List.mem_cons_of_mem _ q))
                          unfold addT; rw [if_neg hk6]
                          have a1 : (out :: key :: T6).Perm (out :: keysC oR) := (List.Perm.swap key out T6).trans (((g2.trans HH.out).cons key).trans g1.symm)
                          exact List.perm_append_comm.trans (List.perm_cons _ |>.1 a1)
                        clear z Z6 hd1 hd2
                        go_wp2_with fail
                        go_meet
                        case rel => exact ⟨_, oR, oh, L4, hoR, hoh, hperm, Z7⟩
            · by_cases q1 : x0 = 1
              · as_aux_lemma =>
                subst q1
                have C12 := drop_is key Z.t.s1 Z.t.M1 (by omega)
                have DL := drop_law (R := R) key
                have hdec : (atR R key).isSome = decide (key ∈ T) := by rw [atR_mem]; simp [HH.out.mem key]
                unfold Dropped at C12
                rw [hdec] at C12
                go_upto_region 34 with (first | (go_at_call 12; refine C12.mono ?_; clear C12; rintro e w4 ⟨rfl, k4, L4, s4, M4⟩))
                have Z4 := Z.one (k4.weak (fun i hi => .inl (by simp at hi ⊢; omega))) s4 M4
                have lk := Z4.t.mp.look key
                obtain ⟨w6, T6, pd, mp6, k6, hd1, hd2⟩ := Z4.t.mp.del key
                have Z6 := Z4.map k6 mp6
                have a1 : w4.cell? ⟨A, 1, none⟩ = some (.int .u32 key) := cell_of Z4.act 1
                have hperm : Has (dropR R key) T6 := by
                  by_cases hk : key ∈ T
                  · have g1 := DL.2.1 ((HH.out.mem key).1 hk)
                    have g2 := hd2 hk
                    exact (List.perm_cons _).1 ((g2.trans HH.out).trans g1.symm)
                  · rw [hd1 hk, DL.1 (fun q => hk ((HH.out.mem key).2 q))]; exact HH.out
                have hRd := DL.2.2.trans hR
                clear hd1 hd2 DL hdec Z4 Z k4 s4 M4 a0
                generalize decide (key ∈ T) = bb at *
                go_wp2_with fail
                all_goals go_meet
                all_goals exact ⟨T6, dropR R key, h, L4, hRd, hh, hperm, Z6⟩
              · go_wp2_with fail
                go_meet
                case rel => exact ⟨T, R, h, L, hR, hh, HH.out, Z⟩
          case rest => as_aux_lemma =>
            obtain ⟨T, R, h, L, hR, hh, hH, Z⟩ := hcut
            have HH := Lib.hid hH
            have eT := hH.len
            clear hH
            have eL := Z.t.M1.length
            have hN : fulls R ≤ n := hR ▸ fulls_le R
            have C13 := fun (W : World) (z : Sa w p r cap m R h L p2 r2 cap2 m2 R2 h2 L2 mt T A x0 key W) => len_is z.t.s1
            have ln := fun ty => Z.t.mp.len ty
            simp only [eT] at ln
            simp only [eL] at C13
            have C13 := C13 _ Z
            have hhas : ∀ kk, kk ∈ T → (lookL kk L 0).isSome = true := fun kk hk => by
              have h1 := (HH.out.mem kk).1 hk
              have h2 := atR_mem (R := R) (k := kk)
              rw [decide_eq_true h1] at h2
              obtain ⟨i, hi⟩ := Option.isSome_iff_exists.1 h2
              obtain ⟨j, hj⟩ := (Z.t.M1.look kk).1 i hi
              rw [hj]; rfl
            have Hhas := Lib.hid hhas
            clear hhas eT eL
            generalize fulls R = N at *
            have hd9 : decide (n < N) = false := decide_eq_false (by omega)
            obtain ⟨wi, left0, rg, bi, it0⟩ := Z.t.mp.range
            have Zi := Z.t.below bi
            have hI : w.heap.size ≤ wc.heap.size ∧ (wc.heap.size ∉ [p, r, m] ∧ wc.heap.size ∉ [p2, r2, m2] ∧ wc.heap.size ≠ mt) := by
              have e1 := lt_of_heap Z.t.s1.obj
              have e2 := Z.t.s1.row.lt
              have e3 := Z.t.s1.mp.lt
              have e4 := lt_of_heap Z.t.s2.obj
              have e5 := Z.t.s2.row.lt
              have e6 := Z.t.s2.mp.lt
              have e7 := Z.t.mp.lt
              refine ⟨Z.t.bel.size, by simp; omega, by simp; omega, by omega⟩
            have HI := Lib.hid hI
            clear hI Z bi
            go_wp2_with (first | (go_at_call 13; refine C13.mono ?_; rintro e w4 ⟨rfl, rfl⟩))
            clear C13 ln rg
            generalize wc.heap.size = I at *
            go_loopw [21] (fun _ wq => ∃ left, It wq mt I T left ∧ Sh w p r cap m R h L p2 r2 cap2 m2 R2 h2 L2 mt T wq) (fun _ wq => itLeft wq mt I)
            case atStart => exact ⟨left0, it0, Zi⟩
            case round => as_aux_lemma =>
              obtain ⟨left, it, Z⟩ := hrel
              clear it0 Zi
              rcases it.next 0 with hn | ⟨kk, w5, left', hkT, hn, k5, it5, hlt, hen⟩
              · obtain ⟨R9, hu, hLi9⟩ := HLi.out.use (by omega : 0 < n)
                have C11 := use_is (1000 + (k : Int)) Z.s2 Z.M2 (by rw [HLi.out.len]; omega) (by
                  rw [HLi.out.len, HLi.out.hand]
                  split
                  · omega
                  · exact Nat.mod_lt _ (by omega))
                unfold Used at C11
                rw [hu] at C11
                have HL9 := Lib.hid hLi9
                clear hu hLi9 Hhas it
                generalize (if k + 1 < n then 0 else (k + 1) % n) = h9 at *
                by_cases hnk : n ≤ k
                · rw [if_pos hnk, decide_eq_true hnk] at C11
                  have hout : (1000 : Int) + ((k - n : Nat) : Int) = 1000 + (k : Int) - (n : Int) := by omega
                  rw [hout] at C11
                  clear hout
                  have hnk2 : (n : Int) ≤ (k : Int) := by omega
                  go_wp2_with (first | (go_at_call 11; refine C11.mono ?_; clear C11; rintro e w6 ⟨rfl, k6, L9, s9, M9⟩; have Z9 := (Z.two k6 s9 M9).below ((Below.refl _ _).alloc (Nat.le_refl _) (.cells #[.bool false, .bool true, .int .u32 (1000 + (k : Int) - (n : Int))] 37))))
                  go_roundw
                  case rel => exact ⟨k + 1, T, R, h, L, R9, h9, L9, by omega, by go_num, hR, hh, HH.out, HL9.out, Z9⟩
                  all_goals (simp [intOf]; omega)
                · rw [if_neg hnk, decide_eq_false hnk] at C11
                  have hnk2 : ¬ (n : Int) ≤ (k : Int) := by omega
                  go_wp2_with (first | (go_at_call 11; refine C11.mono ?_; clear C11; rintro e w6 ⟨rfl, k6, L9, s9, M9⟩; have Z9 := (Z.two k6 s9 M9).below ((Below.refl _ _).alloc (Nat.le_refl _) (.cells #[.bool false, .bool false, .int .u32 0] 37))))
                  go_roundw
                  case rel => exact ⟨k + 1, T, R, h, L, R9, h9, L9, by omega, by go_num, hR, hh, HH.out, HL9.out, Z9⟩
                  all_goals (simp [intOf]; omega)
              · have Z5 := Z.other k5 HI.out.1 HI.out.2
                have hh9 := Hhas.out kk hkT
                have C14 := has_is kk Z5.s1
                rw [hh9] at C14
                go_wp2_with (first | (go_at_call 14; refine C14.mono ?_; clear C14; rintro e w6 ⟨rfl, rfl⟩))
                go_roundw
                case rel => exact ⟨left', it5, Z5⟩
                case measure => rw [it5.left, it.left]; exact hlt
        · obtain rfl : k = len := by omega
          go_wp2_with (first | (go_at_call 8; refine (known_any _).mono ?_; rintro e w4 ⟨rfl, b5⟩))
          go_ret
          exact ⟨rfl, Z0.bel.trans (b5.mono Z0.bel.size)⟩
  · have hno : a0 < 1 ∨ 40 < a0 := by omega
    clear hok
    go_enter Try.func3, Try.ntmps3
    go_wp2_with (first | (go_at_call 8; refine (known_any _).mono ?_; rintro e w4 ⟨rfl, b5⟩))
    all_goals go_ret
    all_goals exact ⟨rfl, b5⟩
end Go.Proofs.Ytbjhpefnonnkmaa
