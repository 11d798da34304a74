/-
  The contract of cubbyholelaw31.plays.
-/
import Derived.Test.YtbjhpefnonnkmaaQ
namespace Go.Proofs.Ytbjhpefnonnkmaa
open Go.ChangeShapes Go.WideShapes Go.ChangeAt Go.RowKit
set_option linter.unusedVariables false

theorem dropR_length (R : List Pl) (k : Int) : (dropR R k).length = R.length := by unfold dropR; split <;> simp
theorem useR_good {R : List Pl} {h n : Nat} (k : Int) (hn : R.length = n) (hh : h < n) : (useR R h k).R.length = n ∧ (useR R h k).h < n := by
  unfold useR
  split
  · simp [hn, hh]
  · split
    · simp [hn, hh]
    · refine ⟨?_, ?_⟩
      · show (List.set _ _ _).length = n; rw [List.length_set, sweep_length]; exact hn
      · show _ % R.length < n; rw [hn]; exact Nat.mod_lt _ (by omega)
/-- Blocks that are known. -/
def Loc (W : World) (l : List (Nat × Obj)) : Prop := ∀ q ∈ l, W.heap[q.1]? = some q.2
theorem Loc.keep {W W' : World} {l : List (Nat × Obj)} {S : List Nat} (h : Loc W l) (k : Keeps S W W') (hd : ∀ q ∈ l, q.1 ∉ S) : Loc W' l := fun q hq => k.at (h q hq) (hd q hq)
theorem Loc.below {W W' : World} {l : List (Nat × Obj)} (h : Loc W l) (k : Below W.heap.size W W') : Loc W' l := h.keep (S := []) (Keeps.of_below k) (by simp)
/-- Two caches that go along with one another: the code's, the reference's in its box. -/
structure St (w : World) (p r m n pc rc cc mc : Nat) (R : List Pl) (h : Nat) (L : List (Int × Int)) (a ac : Nat) (R2 : List Pl) (h2 : Nat) (W : World) : Prop where
  k : Keeps [p, r, m] w W
  s : IsSec W pc rc cc mc R h L
  M : MapOk R L
  row : Row W 78 a ac R2
  box : W.heap[w.heap.size]? = some (.cells #[.slice (some ⟨a, 0, none⟩) n ac, .int .i64 (h2 : Nat)] 47 (0, 0))
  res : W.heap[w.heap.size + 1]? = some (.cells #[.slice none 0 0, .int .i64 0] 47 (0, 0))
  own : ∀ i ∈ [pc, rc, mc], i ∈ [p, r, m] ∨ w.heap.size + 2 ≤ i
  old : ∀ i ∈ [p, r, m], i < w.heap.size
  na : a ∉ [pc, rc, mc]
  n0 : a ≠ w.heap.size
  n1 : a ≠ w.heap.size + 1
section
variable {w W W' : World} {p r m n pc rc cc mc : Nat} {R : List Pl} {h : Nat} {L : List (Int × Int)} {a ac : Nat} {R2 : List Pl} {h2 : Nat}
theorem St.ownNe (s : St w p r m n pc rc cc mc R h L a ac R2 h2 W) : w.heap.size ∉ [pc, rc, mc] ∧ w.heap.size + 1 ∉ [pc, rc, mc] :=
  ⟨fun q => by rcases s.own _ q with z | z; (have := s.old _ z; omega); omega, fun q => by rcases s.own _ q with z | z; (have := s.old _ z; omega); omega⟩
theorem St.below (s : St w p r m n pc rc cc mc R h L a ac R2 h2 W) (k : Below W.heap.size W W') : St w p r m n pc rc cc mc R h L a ac R2 h2 W' :=
  ⟨s.k.trans (Keeps.of_below (S := []) k) (by simp), s.s.below k, s.M, s.row.keep (S := []) (Keeps.of_below k) (by simp), (k.block _ (lt_of_heap s.box)).trans s.box, (k.block _ (lt_of_heap s.res)).trans s.res, s.own, s.old, s.na, s.n0, s.n1⟩
/-- The code's cache goes on. -/
theorem St.impl (s : St w p r m n pc rc cc mc R h L a ac R2 h2 W) (k : Keeps [pc, rc, mc] W W') {R' : List Pl} {h' : Nat} {L' : List (Int × Int)} (s' : IsSec W' pc rc cc mc R' h' L') (M' : MapOk R' L') : St w p r m n pc rc cc mc R' h' L' a ac R2 h2 W' :=
  ⟨s.k.trans k (fun i hi => by rcases s.own i hi with z | z; exact .inl z; right; omega), s', M', s.row.keep k s.na, k.at s.box s.ownNe.1, k.at s.res s.ownNe.2, s.own, s.old, s.na, s.n0, s.n1⟩
/-- The reference's cache goes on. -/
theorem St.setBox (s : St w p r m n pc rc cc mc R h L a ac R2 h2 W) {a' ac' : Nat} {R' : List Pl} {h' : Nat} (row : Row W 78 a' ac' R') (hna : a' ∉ [pc, rc, mc]) (h0 : a' ≠ w.heap.size) (h1 : a' ≠ w.heap.size + 1) :
    St w p r m n pc rc cc mc R h L a' ac' R' h' ((W.setCell ⟨w.heap.size, 0, none⟩ (.slice (some ⟨a', 0, none⟩) n ac')).setCell ⟨w.heap.size, 1, none⟩ (.int .i64 (h' : Nat))) := by
  have o := s.ownNe.1
  simp only [List.mem_cons, List.not_mem_nil, or_false, not_or] at o
  obtain ⟨o1, o2, o3⟩ := o
  exact ⟨(s.k.setCell (.inr (Nat.le_refl _)) _).setCell (.inr (Nat.le_refl _)) _, ⟨heap_other (heap_other s.s.obj (Ne.symm o1) _) (Ne.symm o1) _, (s.s.row.other (Ne.symm o2) _).other (Ne.symm o2) _, (s.s.mp.other (Ne.symm o3) _).other (Ne.symm o3) _, s.s.pr, s.s.pm, s.s.rm⟩, s.M, (row.other h0 _).other h0 _, heap_set (heap_set s.box _) _, heap_other (heap_other s.res (by omega) _) (by omega) _, s.own, s.old, hna, h0, h1⟩
/-- A copy takes the place of the code's cache. -/
theorem St.swap (s : St w p r m n pc rc cc mc R h L a ac R2 h2 W) (k : Below W.heap.size W W') {p' r' c' m' : Nat} (hp : W.heap.size ≤ p') (hr : W.heap.size ≤ r') (hm : W.heap.size ≤ m') (s' : IsSec W' p' r' c' m' R h L) : St w p r m n p' r' c' m' R h L a ac R2 h2 W' := by
  have b := s.below k
  have hz := lt_of_heap s.res
  have ha := s.row.lt
  refine ⟨b.k, s', s.M, b.row, b.box, b.res, ?_, s.old, ?_, s.n0, s.n1⟩
  · intro i hi; right; simp at hi; omega
  · simp; omega
theorem St.cells (s : St w p r m n pc rc cc mc R h L a ac R2 h2 W) : W.cell? ⟨w.heap.size, 0, none⟩ = some (.slice (some ⟨a, 0, none⟩) n ac) ∧ W.cell? ⟨w.heap.size, 1, none⟩ = some (.int .i64 (h2 : Nat)) ∧ W.frozen? ⟨w.heap.size, 0, none⟩ = false ∧ W.frozen? ⟨w.heap.size, 1, none⟩ = false :=
  ⟨cell_of s.box 0, cell_of s.box 1, frozen_of s.box 0, frozen_of s.box 1⟩
theorem St.lt (s : St w p r m n pc rc cc mc R h L a ac R2 h2 W) : ∀ i ∈ [pc, rc, mc], i < W.heap.size := by
  intro i hi
  simp at hi
  rcases hi with rfl | rfl | rfl
  · exact lt_of_heap s.s.obj
  · exact s.s.row.lt
  · exact s.s.mp.lt
end
/-- Another cache changes. -/
theorem St.other {w W W' : World} {p r m n pc rc cc mc : Nat} {R : List Pl} {h : Nat} {L : List (Int × Int)} {a ac : Nat} {R2 : List Pl} {h2 : Nat} (s : St w p r m n pc rc cc mc R h L a ac R2 h2 W) {S : List Nat} (k : Keeps S W W') (h1 : ∀ i ∈ S, i ∉ [pc, rc, mc]) (h3 : a ∉ S) (h4 : ∀ i ∈ S, i ∈ [p, r, m] ∨ w.heap.size + 2 ≤ i) : St w p r m n pc rc cc mc R h L a ac R2 h2 W' := by
  have e0 : w.heap.size ∉ S := fun q => by rcases h4 _ q with z | z; (have := s.old _ z; omega); omega
  have e1 : w.heap.size + 1 ∉ S := fun q => by rcases h4 _ q with z | z; (have := s.old _ z; omega); omega
  have q1 : pc ∉ S := fun q => h1 _ q (by simp)
  have q2 : rc ∉ S := fun q => h1 _ q (by simp)
  have q3 : mc ∉ S := fun q => h1 _ q (by simp)
  exact ⟨s.k.trans k (fun i hi => by rcases h4 i hi with z | z; exact .inl z; right; omega), s.s.keep k q1 q2 q3, s.M, s.row.keep k h3, k.at s.box e0, k.at s.res e1, s.own, s.old, s.na, s.n0, s.n1⟩
/-- The result is laid. -/
theorem St.setRes {w W : World} {p r m n pc rc cc mc : Nat} {R : List Pl} {h : Nat} {L : List (Int × Int)} {a ac : Nat} {R2 : List Pl} {h2 : Nat} (s : St w p r m n pc rc cc mc R h L a ac R2 h2 W) (x y : Value) :
    Keeps [p, r, m] w ((W.setCell ⟨w.heap.size + 1, 0, none⟩ x).setCell ⟨w.heap.size + 1, 1, none⟩ y) ∧ IsSec ((W.setCell ⟨w.heap.size + 1, 0, none⟩ x).setCell ⟨w.heap.size + 1, 1, none⟩ y) pc rc cc mc R h L ∧ Row ((W.setCell ⟨w.heap.size + 1, 0, none⟩ x).setCell ⟨w.heap.size + 1, 1, none⟩ y) 78 a ac R2 ∧ ((W.setCell ⟨w.heap.size + 1, 0, none⟩ x).setCell ⟨w.heap.size + 1, 1, none⟩ y).heap[w.heap.size + 1]? = some (.cells #[x, y] 47 (0, 0)) := by
  have o := s.ownNe.2
  simp only [List.mem_cons, List.not_mem_nil, or_false, not_or] at o
  obtain ⟨o1, o2, o3⟩ := o
  exact ⟨(s.k.setCell (.inr (by simp)) _).setCell (.inr (by simp)) _, ⟨heap_other (heap_other s.s.obj (Ne.symm o1) _) (Ne.symm o1) _, (s.s.row.other (Ne.symm o2) _).other (Ne.symm o2) _, (s.s.mp.other (Ne.symm o3) _).other (Ne.symm o3) _, s.s.pr, s.s.pm, s.s.rm⟩, (s.row.other s.n1 _).other s.n1 _, heap_set (heap_set s.res _) _⟩
theorem ruse_n {a n cap h : Nat} {R : List Pl} {w : World} {o : Out} (k : Int) (s : Row w 78 a cap R) (hn : R.length = n) (hl : n ≤ 1024) (hh : h < n) (hu : useR R h k = o) (ho : o.R.length = n) :
    Calls Try.prog 32 #[.agg #[.slice (some ⟨a, 0, none⟩) n cap, .int .i64 (h : Nat)], .int .u32 k] w fun e w' => ∃ a2 ac2, e = .returned (.tuple #[.agg #[.slice (some ⟨a2, 0, none⟩) n ac2, .int .i64 (o.h : Nat)], .agg #[.bool o.hit, .bool o.left, .int .u32 o.out]]) ∧ Below w.heap.size w w' ∧ Row w' 78 a2 ac2 o.R ∧ w.heap.size ≤ a2 := by
  refine (ruse_is k s hn hl hh).mono ?_
  rw [hu]
  rintro e w' ⟨a2, ac2, he, hb, hr, hg⟩
  rw [ho] at he
  exact ⟨a2, ac2, he, hb, hr, hg⟩
/-- What the walk is told of a slice of calls. -/
def IsActs (w : World) (S : List Nat) (s : Option Addr) (len : Nat) (f : Nat → Int) (g : Nat → Int) : Prop :=
  0 < len → ∃ b off, s = some ⟨b, off, none⟩ ∧ b < w.heap.size ∧ b ∉ S ∧ ∀ i, i < len → w.cell? ⟨b, off + i * 2, none⟩ = some (.int .i64 (f i)) ∧ w.cell? ⟨b, off + i * 2 + 1, none⟩ = some (.int .u32 (g i))
/-- What plays leaves. -/
def Played (w : World) (p r m n : Nat) (e : Ending) (w' : World) : Prop :=
  ∃ p' r' c' m' a ac R h L, e = .returned (.tuple #[.pointer (some ⟨p', 0, none⟩), .agg #[.slice (some ⟨a, 0, none⟩) n ac, .int .i64 (h : Nat)], .bool true]) ∧ Keeps [p, r, m] w w' ∧ IsSec w' p' r' c' m' R h L ∧ MapOk R L ∧ Row w' 78 a ac R ∧ R.length = n ∧ h < n ∧ a ∉ [p', r', m'] ∧ (∀ i ∈ [p', r', m'], i ∈ [p, r, m] ∨ w.heap.size ≤ i)

set_option maxRecDepth 100000 in
set_option maxHeartbeats 16000000 in
theorem plays_is {p r cap m a acap n len scap : Nat} {R0 : List Pl} {h0 : Nat} {L0 : List (Int × Int)} {w : World} {sl : Option Addr} {f g : Nat → Int} (s0 : IsSec w p r cap m R0 h0 L0) (M0 : MapOk R0 L0) (row0 : Row w 78 a acap R0) (hna : a ∉ [p, r, m]) (hn : R0.length = n) (hl : n ≤ 1024) (hh : h0 < n) (hs : IsActs w [p, r, m] sl len f g) (hm : len ≤ 1000000) :
    Calls Try.prog 17 #[.pointer (some ⟨p, 0, none⟩), .agg #[.slice (some ⟨a, 0, none⟩) n acap, .int .i64 (h0 : Nat)], .slice sl len scap] w fun e w' => Played w p r m n e w' := by
  have lp := lt_of_heap s0.obj
  have lr := s0.row.lt
  have lm := s0.mp.lt
  have la := row0.lt
  go_enter Try.func17, Try.ntmps17
  go_wp2_with fail
  go_loopw [0, 9] (fun v x wr => ∃ k pc rc cc mc a ac R h L, k ≤ len ∧ v = .pointer (some ⟨pc, 0, none⟩) ∧ x = .int .i64 (k : Nat) ∧ R.length = n ∧ h < n ∧ St w p r m n pc rc cc mc R h L a ac R h wr) (fun _ x _ => len + 1 - (intOf x).toNat)
  case atStart =>
    refine ⟨0, p, r, cap, m, a, acap, R0, h0, L0, by omega, rfl, rfl, hn, hh, ⟨((Keeps.refl _ _).alloc _).alloc _, ⟨heap_alloc (heap_alloc s0.obj _) _, (s0.row.alloc _).alloc _, (s0.mp.alloc _).alloc _, s0.pr, s0.pm, s0.rm⟩, M0, (row0.alloc _).alloc _, heap_alloc (heap_new rfl) _, heap_new (by simp), fun i hi => .inl hi, ?_, hna, by omega, by omega⟩⟩
    intro i hi; simp at hi; omega
  case round =>
    obtain ⟨k, pc, rc, cc, mc, a, ac, R, h, L, hk, rfl, rfl, hR, hh', S⟩ := hrel
    clear s0 M0 row0 hna hn hh lp lr lm la
    by_cases hlt : k < len
    · obtain ⟨b, off, rfl, hb, hbn, hcell⟩ := hs (by omega)
      have f0 : wr.cell? ⟨b, off + k * 2, none⟩ = some (.int .i64 (f k)) := (by unfold World.cell?; rw [S.k.block b hb hbn]; exact (hcell k hlt).1)
      have f1 : wr.cell? ⟨b, off + k * 2 + 1, none⟩ = some (.int .u32 (g k)) := (by unfold World.cell?; rw [S.k.block b hb hbn]; exact (hcell k hlt).2)
      clear hcell hs
      generalize f k = x0 at f0
      generalize g k = x1 at f1
      have e1 : wrap64 ((k : Int) + 1) = (k : Int) + 1 := wrap_in (by omega)
      have hk' : ((k : Nat) : Int) < (len : Int) := by omega
      go_upto_region 5 with fail
      have lts := S.lt
      have lta := S.row.lt
      have ltb := lt_of_heap S.res
      refine wp_seen (fun W => St w p r m n pc rc cc mc R h L a ac R h W ∧ Loc W [(wr.heap.size, Obj.cells #[.int .i64 x0, .int .u32 x1] 31 (0, 0))] ∧ wr.heap.size < W.heap.size) ⟨S.below ((Below.refl _ _).alloc (Nat.le_refl _) _), by intro q hq; simp at hq; subst hq; exact heap_new rfl, by simp⟩ ?_
      rintro W0 ⟨S0, l0, z0⟩
      clear f0 f1 hk' S
      generalize wr.heap.size = T at l0 z0 lts lta ltb ⊢
      have d0 : W0.cell? ⟨T, 0, none⟩ = some (.int .i64 x0) := cell_of (l0 (T, .cells #[.int .i64 x0, .int .u32 x1] 31 (0, 0)) (by simp)) 0
      have d1 : W0.cell? ⟨T, 1, none⟩ = some (.int .u32 x1) := cell_of (l0 (T, .cells #[.int .i64 x0, .int .u32 x1] 31 (0, 0)) (by simp)) 1
      by_cases hw0 : x0 = 0
      · subst hw0
        go_upto_region 14 with (first | (go_at_call 11; refine (use_is x1 S0.s S0.M (by omega) (by omega)).mono ?_; rintro e w1 ⟨rfl, k1, L1, s1, M1⟩))
        have S1 := S0.impl k1 s1 M1
        have l1 := l0.keep k1 (by intro q hq hq2; simp at hq; subst hq; exact absurd (lts T hq2) (by omega))
        have z1 := Nat.lt_of_lt_of_le z0 k1.size
        have gd := useR_good x1 hR hh'
        clear S0 l0 z0 k1 s1 M1 d0 d1
        generalize hu : useR R h x1 = o at *
        refine wp_seen (fun W => St w p r m n pc rc cc mc o.R o.h L1 a ac R h W ∧ Loc W [(T, Obj.cells #[.int .i64 0, .int .u32 x1] 31 (0, 0)), (w1.heap.size, Obj.cells #[.bool o.hit, .bool o.left, .int .u32 o.out] 37 (0, 0))] ∧ w1.heap.size < W.heap.size) ⟨S1.below ((Below.refl _ _).alloc (Nat.le_refl _) _), by intro q hq; simp at hq; rcases hq with rfl | rfl; exact heap_alloc (l1 _ (by simp)) _; exact heap_new rfl, by simp⟩ ?_
        rintro W1 ⟨S2, l2, z2⟩

        clear S1 l1
        generalize w1.heap.size = T1 at *
        have c0 : W1.cell? ⟨w.heap.size, 0, none⟩ = some (.slice (some ⟨a, 0, none⟩) n ac) := S2.cells.1
        have c1 : W1.cell? ⟨w.heap.size, 1, none⟩ = some (.int .i64 (h : Nat)) := S2.cells.2.1
        have gc0 : W1.frozen? ⟨w.heap.size, 0, none⟩ = false := S2.cells.2.2.1
        have gc1 : W1.frozen? ⟨w.heap.size, 1, none⟩ = false := S2.cells.2.2.2
        have d1 : W1.cell? ⟨T, 1, none⟩ = some (.int .u32 x1) := cell_of (l2 (T, .cells #[.int .i64 0, .int .u32 x1] 31 (0, 0)) (by simp)) 1
        go_upto_region 15 with (first | (go_at_call 32; refine (ruse_n x1 S2.row hR hl hh' hu gd.1).mono ?_; rintro e w2 ⟨a2, ac2, rfl, b2, row2, ge2⟩))
        have S3 := S2.below b2
        have l3 := l2.below b2
        have bb : Below w2.heap.size w2 ((w2.alloc (.cells #[.slice (some ⟨a2, 0, none⟩) n ac2, .int .i64 (o.h : Nat)] 47)).alloc (.cells #[.bool o.hit, .bool o.left, .int .u32 o.out] 37)) := ((Below.refl _ _).alloc (Nat.le_refl _) _).alloc (by simp) _
        refine wp_seen (fun W => St w p r m n pc rc cc mc o.R o.h L1 a ac R h W ∧ Row W 78 a2 ac2 o.R ∧ Loc W [(T, Obj.cells #[.int .i64 0, .int .u32 x1] 31 (0, 0)), (T1, Obj.cells #[.bool o.hit, .bool o.left, .int .u32 o.out] 37 (0, 0)), (w2.heap.size, Obj.cells #[.slice (some ⟨a2, 0, none⟩) n ac2, .int .i64 (o.h : Nat)] 47 (0, 0)), (w2.heap.size + 1, Obj.cells #[.bool o.hit, .bool o.left, .int .u32 o.out] 37 (0, 0))]) ⟨S3.below bb, rowS row2 bb, by intro q hq; simp at hq; rcases hq with rfl | rfl | rfl | rfl; exact heap_alloc (heap_alloc (l3 _ (by simp)) _) _; exact heap_alloc (heap_alloc (l3 _ (by simp)) _) _; exact heap_alloc (heap_new rfl) _; exact heap_new (by simp)⟩ ?_
        rintro W2 ⟨S4, row4, l4⟩
        have zz : T1 < w2.heap.size := Nat.lt_of_lt_of_le z2 b2.size
        have za : T1 < a2 := Nat.lt_of_lt_of_le z2 ge2
        clear S2 S3 l2 l3 bb row2 b2 ge2 z2 c0 c1 gc0 gc1 d1
        generalize w2.heap.size = T2 at *
        have c0 : W2.cell? ⟨w.heap.size, 0, none⟩ = some (.slice (some ⟨a, 0, none⟩) n ac) := S4.cells.1
        have c1 : W2.cell? ⟨w.heap.size, 1, none⟩ = some (.int .i64 (h : Nat)) := S4.cells.2.1
        have gc0 : W2.frozen? ⟨w.heap.size, 0, none⟩ = false := S4.cells.2.2.1
        have gc1 : W2.frozen? ⟨w.heap.size, 1, none⟩ = false := S4.cells.2.2.2
        have t0 : W2.cell? ⟨T2, 0, none⟩ = some (.slice (some ⟨a2, 0, none⟩) n ac2) := cell_of (l4 (T2, .cells #[.slice (some ⟨a2, 0, none⟩) n ac2, .int .i64 (o.h : Nat)] 47 (0, 0)) (by simp)) 0
        have t1 : W2.cell? ⟨T2, 1, none⟩ = some (.int .i64 (o.h : Nat)) := cell_of (l4 (T2, .cells #[.slice (some ⟨a2, 0, none⟩) n ac2, .int .i64 (o.h : Nat)] 47 (0, 0)) (by simp)) 1
        go_upto_region 16 with fail
        have S5 := S4.setBox (h' := o.h) row4 (fun q => by have := lts _ q; omega) (by omega) (by omega)
        have l5 := l4.keep (((Keeps.refl [w.heap.size] W2).setCell (ad := ⟨w.heap.size, 0, none⟩) (.inl (by simp)) (.slice (some ⟨a2, 0, none⟩) n ac2)).setCell (ad := ⟨w.heap.size, 1, none⟩) (.inl (by simp)) (.int .i64 (o.h : Nat))) (by intro q hq hq2; simp at hq hq2; rcases hq with rfl | rfl | rfl | rfl <;> simp at hq2 <;> omega)
        refine wp_seen (fun W => St w p r m n pc rc cc mc o.R o.h L1 a2 ac2 o.R o.h W ∧ Loc W [(T, Obj.cells #[.int .i64 0, .int .u32 x1] 31 (0, 0)), (T1, Obj.cells #[.bool o.hit, .bool o.left, .int .u32 o.out] 37 (0, 0)), (T2, Obj.cells #[.slice (some ⟨a2, 0, none⟩) n ac2, .int .i64 (o.h : Nat)] 47 (0, 0)), (T2 + 1, Obj.cells #[.bool o.hit, .bool o.left, .int .u32 o.out] 37 (0, 0))]) ⟨S5, l5⟩ ?_
        rintro W3 ⟨S6, l6⟩
        clear S4 S5 l4 l5 row4 c0 c1 gc0 gc1 t0 t1
        have c0 : W3.cell? ⟨w.heap.size, 0, none⟩ = some (.slice (some ⟨a2, 0, none⟩) n ac2) := S6.cells.1
        have c1 : W3.cell? ⟨w.heap.size, 1, none⟩ = some (.int .i64 (o.h : Nat)) := S6.cells.2.1
        have gc0 : W3.frozen? ⟨w.heap.size, 0, none⟩ = false := S6.cells.2.2.1
        have gc1 : W3.frozen? ⟨w.heap.size, 1, none⟩ = false := S6.cells.2.2.2
        have d1 : W3.cell? ⟨T, 1, none⟩ = some (.int .u32 x1) := cell_of (l6 (T, .cells #[.int .i64 0, .int .u32 x1] 31 (0, 0)) (by simp)) 1
        have p0 : W3.cell? ⟨T1, 0, none⟩ = some (.bool o.hit) := cell_of (l6 (T1, .cells #[.bool o.hit, .bool o.left, .int .u32 o.out] 37 (0, 0)) (by simp)) 0
        have p1 : W3.cell? ⟨T1, 1, none⟩ = some (.bool o.left) := cell_of (l6 (T1, .cells #[.bool o.hit, .bool o.left, .int .u32 o.out] 37 (0, 0)) (by simp)) 1
        have p2 : W3.cell? ⟨T1, 2, none⟩ = some (.int .u32 o.out) := cell_of (l6 (T1, .cells #[.bool o.hit, .bool o.left, .int .u32 o.out] 37 (0, 0)) (by simp)) 2
        have q0 : W3.cell? ⟨T2 + 1, 0, none⟩ = some (.bool o.hit) := cell_of (l6 (T2 + 1, .cells #[.bool o.hit, .bool o.left, .int .u32 o.out] 37 (0, 0)) (by simp)) 0
        have q1 : W3.cell? ⟨T2 + 1, 1, none⟩ = some (.bool o.left) := cell_of (l6 (T2 + 1, .cells #[.bool o.hit, .bool o.left, .int .u32 o.out] 37 (0, 0)) (by simp)) 1
        have q2 : W3.cell? ⟨T2 + 1, 2, none⟩ = some (.int .u32 o.out) := cell_of (l6 (T2 + 1, .cells #[.bool o.hit, .bool o.left, .int .u32 o.out] 37 (0, 0)) (by simp)) 2
        go_wp2_with (first | (go_at_call 16; refine (equal_is x1 S6.s S6.M S6.row gd.1 hl).mono ?_; rintro e w4 ⟨rfl, b4⟩; have S7 := S6.below b4))
        go_roundw
        case rel => exact ⟨k + 1, pc, rc, cc, mc, a2, ac2, o.R, o.h, L1, by omega, rfl, by go_num, gd.1, gd.2, S7⟩
        all_goals (simp [intOf]; omega)
      · by_cases hw1 : x0 = 1
        · subst hw1
          go_upto_region 20 with (first | (go_at_call 12; refine (drop_is x1 S0.s S0.M (by omega)).mono ?_; rintro e w1 ⟨rfl, k1, L1, s1, M1⟩))
          have k1' : Keeps [pc, rc, mc] W0 w1 := k1.weak (by simp)
          have S1 := S0.impl k1' s1 M1
          have l1 := l0.keep k1' (by intro q hq hq2; simp at hq; subst hq; exact absurd (lts T hq2) (by omega))
          have z1 := Nat.lt_of_lt_of_le z0 k1.size
          have gd : (dropR R x1).length = n := (dropR_length R x1).trans hR
          clear S0 l0 z0 k1 k1' s1 M1 d0 d1
          generalize hu : dropR R x1 = o at *
          generalize hi : (atR R x1).isSome = bb at *
          have c0 : w1.cell? ⟨w.heap.size, 0, none⟩ = some (.slice (some ⟨a, 0, none⟩) n ac) := S1.cells.1
          have c1 : w1.cell? ⟨w.heap.size, 1, none⟩ = some (.int .i64 (h : Nat)) := S1.cells.2.1
          have gc0 : w1.frozen? ⟨w.heap.size, 0, none⟩ = false := S1.cells.2.2.1
          have gc1 : w1.frozen? ⟨w.heap.size, 1, none⟩ = false := S1.cells.2.2.2
          have d1 : w1.cell? ⟨T, 1, none⟩ = some (.int .u32 x1) := cell_of (l1 (T, .cells #[.int .i64 1, .int .u32 x1] 31 (0, 0)) (by simp)) 1
          go_upto_region 21 with (first | (go_at_call 33; refine (rdrop_is x1 S1.row hR (by omega) hl).mono ?_; rintro e w2 ⟨a2, ac2, rfl, b2, row2, ge2⟩; rw [hi]))
          have S3 := S1.below b2
          have l3 := l1.below b2
          rw [hu] at row2
          have bb2 : Below w2.heap.size w2 (w2.alloc (.cells #[.slice (some ⟨a2, 0, none⟩) n ac2, .int .i64 (h : Nat)] 47)) := (Below.refl _ _).alloc (Nat.le_refl _) _
          refine wp_seen (fun W => St w p r m n pc rc cc mc o h L1 a ac R h W ∧ Row W 78 a2 ac2 o ∧ Loc W [(T, Obj.cells #[.int .i64 1, .int .u32 x1] 31 (0, 0)), (w2.heap.size, Obj.cells #[.slice (some ⟨a2, 0, none⟩) n ac2, .int .i64 (h : Nat)] 47 (0, 0))]) ⟨S3.below bb2, rowS row2 bb2, by intro q hq; simp at hq; rcases hq with rfl | rfl; exact heap_alloc (l3 _ (by simp)) _; exact heap_new rfl⟩ ?_
          rintro W2 ⟨S4, row4, l4⟩
          have zz : T < w2.heap.size := Nat.lt_of_lt_of_le z1 b2.size
          have na2 : a2 ∉ [pc, rc, mc] ∧ a2 ≠ w.heap.size ∧ a2 ≠ w.heap.size + 1 := by
            rcases ge2 with rfl | z
            · exact ⟨S4.na, S4.n0, S4.n1⟩
            · exact ⟨fun q => by have := lts _ q; omega, by omega, by omega⟩
          clear S1 S3 l1 l3 bb2 row2 b2 ge2 z1 c0 c1 gc0 gc1 d1
          generalize w2.heap.size = T2 at *
          have c0 : W2.cell? ⟨w.heap.size, 0, none⟩ = some (.slice (some ⟨a, 0, none⟩) n ac) := S4.cells.1
          have c1 : W2.cell? ⟨w.heap.size, 1, none⟩ = some (.int .i64 (h : Nat)) := S4.cells.2.1
          have gc0 : W2.frozen? ⟨w.heap.size, 0, none⟩ = false := S4.cells.2.2.1
          have gc1 : W2.frozen? ⟨w.heap.size, 1, none⟩ = false := S4.cells.2.2.2
          have t0 : W2.cell? ⟨T2, 0, none⟩ = some (.slice (some ⟨a2, 0, none⟩) n ac2) := cell_of (l4 (T2, .cells #[.slice (some ⟨a2, 0, none⟩) n ac2, .int .i64 (h : Nat)] 47 (0, 0)) (by simp)) 0
          have t1 : W2.cell? ⟨T2, 1, none⟩ = some (.int .i64 (h : Nat)) := cell_of (l4 (T2, .cells #[.slice (some ⟨a2, 0, none⟩) n ac2, .int .i64 (h : Nat)] 47 (0, 0)) (by simp)) 1
          go_upto_region 22 with fail
          have S5 := S4.setBox (h' := h) row4 na2.1 na2.2.1 na2.2.2
          have l5 := l4.keep (((Keeps.refl [w.heap.size] W2).setCell (ad := ⟨w.heap.size, 0, none⟩) (.inl (by simp)) (.slice (some ⟨a2, 0, none⟩) n ac2)).setCell (ad := ⟨w.heap.size, 1, none⟩) (.inl (by simp)) (.int .i64 (h : Nat))) (by intro q hq hq2; simp at hq hq2; rcases hq with rfl | rfl <;> simp at hq2 <;> omega)
          refine wp_seen (fun W => St w p r m n pc rc cc mc o h L1 a2 ac2 o h W ∧ Loc W [(T, Obj.cells #[.int .i64 1, .int .u32 x1] 31 (0, 0)), (T2, Obj.cells #[.slice (some ⟨a2, 0, none⟩) n ac2, .int .i64 (h : Nat)] 47 (0, 0))]) ⟨S5, l5⟩ ?_
          rintro W3 ⟨S6, l6⟩
          clear S4 S5 l4 l5 row4 c0 c1 gc0 gc1 t0 t1
          have c0 : W3.cell? ⟨w.heap.size, 0, none⟩ = some (.slice (some ⟨a2, 0, none⟩) n ac2) := S6.cells.1
          have c1 : W3.cell? ⟨w.heap.size, 1, none⟩ = some (.int .i64 (h : Nat)) := S6.cells.2.1
          have gc0 : W3.frozen? ⟨w.heap.size, 0, none⟩ = false := S6.cells.2.2.1
          have gc1 : W3.frozen? ⟨w.heap.size, 1, none⟩ = false := S6.cells.2.2.2
          have d1 : W3.cell? ⟨T, 1, none⟩ = some (.int .u32 x1) := cell_of (l6 (T, .cells #[.int .i64 1, .int .u32 x1] 31 (0, 0)) (by simp)) 1
          go_wp2_with (first | (go_at_call 16; refine (equal_is x1 S6.s S6.M S6.row gd hl).mono ?_; rintro e w4 ⟨rfl, b4⟩; have S7 := S6.below b4))
          go_roundw
          case rel => exact ⟨k + 1, pc, rc, cc, mc, a2, ac2, o, h, L1, by omega, rfl, by go_num, gd, hh', S7⟩
          all_goals (simp [intOf]; omega)
        · go_upto_region 10 with (first | (go_at_call 20; refine (copy_is S0.s hR (by omega) hl).mono ?_; rintro e w1 ⟨p1, r1, q1, m1, rfl, b1, gp, gr, gm, s1⟩))
          have sO := S0.s.below b1
          have MO := S0.M
          have naO := S0.na
          have ownO := S0.own
          have ltO := S0.lt
          have S1 := S0.swap b1 gp gr gm s1
          have l1 := l0.below b1
          have z1 := Nat.lt_of_lt_of_le z0 b1.size
          clear S0 l0 z0 d0 d1 b1 s1
          have d1 : w1.cell? ⟨T, 1, none⟩ = some (.int .u32 x1) := cell_of (l1 (T, .cells #[.int .i64 x0, .int .u32 x1] 31 (0, 0)) (by simp)) 1
          have nT : T ∉ [pc, rc, mc] := fun q => by have := lts _ q; omega
          have nS : ∀ i ∈ [pc, rc, mc], i ∉ [p1, r1, m1] := fun i hi q => by have := ltO i hi; simp at q; omega
          go_upto_region 11 with (first | (go_at_call 11; refine (use_is _ sO MO (by omega) (by omega)).mono ?_; rintro e w2 ⟨rfl, k2, L2, s2, M2⟩))
          have S2 := S1.other k2 nS naO ownO
          have l2 := l1.keep k2 (by intro q hq hq2; simp at hq; subst hq; exact nT hq2)
          clear S1 l1 d1 sO MO
          have d1 : w2.cell? ⟨T, 1, none⟩ = some (.int .u32 x1) := cell_of (l2 (T, .cells #[.int .i64 x0, .int .u32 x1] 31 (0, 0)) (by simp)) 1
          go_upto_region 24 with (first | (go_at_call 12; refine (drop_is _ s2 M2 (Nat.le_trans (Nat.le_of_eq (useR_good _ hR hh').1) hl)).mono ?_; rintro e w3 ⟨rfl, k3, L3, s3, M3⟩))
          have k3' : Keeps [pc, rc, mc] w2 w3 := k3.weak (by simp)
          have S3 := S2.other k3' nS naO ownO
          have l3 := l2.keep k3' (by intro q hq hq2; simp at hq; subst hq; exact nT hq2)
          clear S2 l2 d1 s2 M2 s3 M3
          have c0 : w3.cell? ⟨w.heap.size, 0, none⟩ = some (.slice (some ⟨a, 0, none⟩) n ac) := S3.cells.1
          have c1 : w3.cell? ⟨w.heap.size, 1, none⟩ = some (.int .i64 (h : Nat)) := S3.cells.2.1
          have gc0 : w3.frozen? ⟨w.heap.size, 0, none⟩ = false := S3.cells.2.2.1
          have gc1 : w3.frozen? ⟨w.heap.size, 1, none⟩ = false := S3.cells.2.2.2
          have d1 : w3.cell? ⟨T, 1, none⟩ = some (.int .u32 x1) := cell_of (l3 (T, .cells #[.int .i64 x0, .int .u32 x1] 31 (0, 0)) (by simp)) 1
          go_wp2_with (first | (go_at_call 16; refine (equal_is x1 S3.s S3.M S3.row hR hl).mono ?_; rintro e w4 ⟨rfl, b4⟩; have S7 := S3.below b4))
          go_roundw
          case rel => exact ⟨k + 1, p1, r1, q1, m1, a, ac, R, h, L, by omega, rfl, by go_num, hR, hh', S7⟩
          all_goals (simp [intOf]; omega)
    · have hk' : ¬ ((k : Nat) : Int) < (len : Int) := by omega
      have c0 : wr.cell? ⟨w.heap.size, 0, none⟩ = some (.slice (some ⟨a, 0, none⟩) n ac) := S.cells.1
      have c1 : wr.cell? ⟨w.heap.size, 1, none⟩ = some (.int .i64 (h : Nat)) := S.cells.2.1
      have gc0 : wr.frozen? ⟨w.heap.size, 0, none⟩ = false := S.cells.2.2.1
      have gc1 : wr.frozen? ⟨w.heap.size, 1, none⟩ = false := S.cells.2.2.2
      have r0 : wr.cell? ⟨w.heap.size + 1, 0, none⟩ = some (.slice none 0 0) := cell_of S.res 0
      have r1 : wr.cell? ⟨w.heap.size + 1, 1, none⟩ = some (.int .i64 0) := cell_of S.res 1
      have gr0 : wr.frozen? ⟨w.heap.size + 1, 0, none⟩ = false := frozen_of S.res 0
      have gr1 : wr.frozen? ⟨w.heap.size + 1, 1, none⟩ = false := frozen_of S.res 1
      go_wp2_with fail
      go_region
      all_goals go_wp2_with fail
      have SR := S.setRes (.slice (some ⟨a, 0, none⟩) n ac) (.int .i64 (h : Nat))
      refine post_seen (fun W => Keeps [p, r, m] w W ∧ IsSec W pc rc cc mc R h L ∧ Row W 78 a ac R ∧ W.heap[w.heap.size + 1]? = some (.cells #[.slice (some ⟨a, 0, none⟩) n ac, .int .i64 (h : Nat)] 47 (0, 0))) ⟨SR.1.drew, SR.2.1.drew, SR.2.2.1, SR.2.2.2⟩ ?_
      rintro W9 ⟨k9, s9, row9, res9⟩
      clear c0 c1 gc0 gc1 r0 r1 gr0 gr1 SR
      have r0 : W9.cell? ⟨w.heap.size + 1, 0, none⟩ = some (.slice (some ⟨a, 0, none⟩) n ac) := cell_of res9 0
      have r1 : W9.cell? ⟨w.heap.size + 1, 1, none⟩ = some (.int .i64 (h : Nat)) := cell_of res9 1
      exact bodyPost_ret (v := .tuple #[.pointer (some ⟨pc, 0, none⟩), .agg #[.slice (some ⟨a, 0, none⟩) n ac, .int .i64 (h : Nat)], .bool true]) (by simp [results, Try.results17, go_sem, r0, r1]) rfl ⟨pc, rc, cc, mc, a, ac, R, h, L, rfl, k9, s9, S.M, row9, hR, hh', S.na, fun i hi => by rcases S.own i hi with z | z; exact .inl z; right; omega⟩

end Go.Proofs.Ytbjhpefnonnkmaa
