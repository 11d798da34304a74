/-
  The contract of of.
-/
import Derived.Test.YteibleghnadelaaF
namespace Go.Proofs.Yteibleghnadelaa
open Go.ChangeShapes Go.WideShapes Go.ChangeAt Go.RowKit
set_option linter.unusedVariables false

/-- What of holds while it looks at the entries. -/
structure OfS (w : World) (N C M : Nat) (s : Option Addr) (n c : Nat) (k : Int) (L : List (Int × Int)) (T : List Int) (W : World) : Prop where
  bel : Below w.heap.size w W
  res : W.heap[N]? = some (.cells #[.slice none 0 0, .int .u32 0] 53 (0, 0))
  ch : W.heap[C]? = some (.cells #[.slice s n c, .int .u32 k] 53 (0, 0))
  e : Ents W s L
  m : Mt W M T
  o0 : w.heap.size ≤ N
  o1 : w.heap.size ≤ C
  o2 : w.heap.size ≤ M
  ne : ∀ b off, s = some ⟨b, off, none⟩ → N < b
section
variable {w W W' : World} {N C M : Nat} {s : Option Addr} {n c : Nat} {k : Int} {L : List (Int × Int)} {T T' : List Int}
theorem OfS.below (z : OfS w N C M s n c k L T W) (b : Below W.heap.size W W') : OfS w N C M s n c k L T W' :=
  ⟨z.bel.trans (b.mono z.bel.size), (b.block _ (lt_of_heap z.res)).trans z.res, (b.block _ (lt_of_heap z.ch)).trans z.ch, z.e.below b (Nat.le_refl _), z.m.keep (Keeps.of_below (S := []) b) (by simp), z.o0, z.o1, z.o2, z.ne⟩
theorem OfS.map (z : OfS w N C M s n c k L T W) (kk : Keeps [M] W W') (t : Mt W' M T') : OfS w N C M s n c k L T' W' := by
  obtain ⟨es, cl, hm, _⟩ := z.m
  have hN : N ∉ [M] := fun q => by have q : N = M := by simpa using q
                                   have := z.res; rw [q, hm] at this; simp at this
  have hC : C ∉ [M] := fun q => by have q : C = M := by simpa using q
                                   have := z.ch; rw [q, hm] at this; simp at this
  refine ⟨z.bel.trans (kk.below (by simpa using z.o2) z.bel.size), kk.at z.res hN, kk.at z.ch hC, fun h0 => ?_, t, z.o0, z.o1, z.o2, z.ne⟩
  obtain ⟨b, off, e, hb, hc⟩ := z.e h0
  have hbM : b ∉ [M] := fun q => by
    have q : b = M := by simpa using q
    have h1 := (hc 0 L[0] (List.getElem?_eq_getElem h0)).1
    unfold World.cell? at h1
    rw [show W.heap[(⟨b, off + 0 * 2, none⟩ : Addr).block]? = W.heap[M]? by rw [q], hm] at h1
    simp at h1
  have := kk.block b hb hbM
  exact ⟨b, off, e, Nat.lt_of_lt_of_le hb kk.size, fun i x hx => by rw [cell_block this, cell_block this]; exact hc i x hx⟩
end
theorem Ents.set {w : World} {s : Option Addr} {L : List (Int × Int)} {N i : Nat} {u : Value} (h : Ents w s L) (ne : ∀ b off, s = some ⟨b, off, none⟩ → N < b) : Ents (w.setCell ⟨N, i, none⟩ u) s L :=
  h.block (by rw [size_set]; exact Nat.le_refl _) (fun b off q hb => Below.heap_setCell _ _ _ _ (by have := ne b off q; show b ≠ N; omega))
/-- What of hands back. -/
def OfEnd (w : World) (k : Int) (L : List (Int × Int)) (e : Ending) (w' : World) : Prop :=
  Below w.heap.size w w' ∧ ((FairL L ∧ ∃ s c, e = .returned (.tuple #[.agg #[.slice s L.length c, .int .u32 k], .int .i64 0]) ∧ Ents w' s L ∧ (L.length = 0 → s = none ∧ c = 0)) ∨
    (¬ FairL L ∧ e = .returned (.tuple #[.agg #[.slice none 0 0, .int .u32 0], .int .i64 2])))
set_option maxHeartbeats 4000000 in
theorem of_is {s1 s2 : Option Addr} {n1 c1 n2 c2 : Nat} {k : Int} {L1 L2 : List (Int × Int)} {w : World} (hE1 : Ents w s1 L1) (hE2 : Ents w s2 L2) (h1 : L1.length = n1) (h2 : L2.length = n2) (h3 : n1 + n2 ≤ 500) :
    Calls Try.prog 24 #[.slice s1 n1 c1, .slice s2 n2 c2, .int .u32 k] w fun e w' => OfEnd w k (L1 ++ L2) e w' := by
  generalize hLL : L1 ++ L2 = L
  have b0 : Below w.heap.size w ((w.alloc (.cells #[.slice none 0 0, .int .u32 0] 53)).alloc (.cells #[.slice s1 n1 c1, .slice s2 n2 c2] 22)) := ((Below.refl _ _).alloc (Nat.le_refl _) _).alloc (by simp) _
  have CC := concat_is (c1 := c1) (c2 := c2) (w := (w.alloc (.cells #[.slice none 0 0, .int .u32 0] 53)).alloc (.cells #[.slice s1 n1 c1, .slice s2 n2 c2] 22)) (b := w.heap.size + 1) (heap_new (by simp)) (hE1.below b0 (Nat.le_refl _)) (hE2.below b0 (Nat.le_refl _)) h1 h2 h3
  have hR : ((w.alloc (.cells #[.slice none 0 0, .int .u32 0] 53)).alloc (.cells #[.slice s1 n1 c1, .slice s2 n2 c2] 22)).heap[w.heap.size]? = some (.cells #[.slice none 0 0, .int .u32 0] 53 (0, 0)) := heap_alloc (heap_new rfl) _
  rw [hLL] at CC
  have hmk := make_map63
  go_enter Try.func24, Try.ntmps24
  go_upto_region 3 with (first | (go_at_call 31; refine CC.mono ?_; clear CC; rintro e w1 ⟨v, rfl, o1, hnil, b1⟩; obtain ⟨s, c, rfl⟩ := own_shape o1))
  have bA : Below w1.heap.size w1 ((w1.alloc (.cells #[.slice s (n1 + n2) c, .int .u32 k] 53)).alloc (.map #[] 0)) := ((Below.refl _ _).alloc (Nat.le_refl _) _).alloc (by simp) _
  have bw1 : Below w.heap.size w w1 := b0.trans (b1.mono b0.size)
  have hlen : L.length = n1 + n2 := by rw [← hLL, List.length_append, h1, h2]
  clear hLL
  refine wp_seen (fun W => OfS w w.heap.size w1.heap.size (w1.heap.size + 1) s (n1 + n2) c k L [] W) ⟨bw1.trans (bA.mono bw1.size), (bA.block _ (lt_of_heap ((b1.block _ (lt_of_heap hR)).trans hR))).trans ((b1.block _ (lt_of_heap hR)).trans hR), heap_alloc (heap_new rfl) _, (Ents.of_owns o1).2.below bA (Nat.le_refl _), by have := Mt.new (w := w1.alloc (.cells #[.slice s (n1 + n2) c, .int .u32 k] 53)); simpa using this, Nat.le_refl _, bw1.size, Nat.le_succ_of_le bw1.size, fun b off q => by subst q; have := own_block o1 b rfl; simp at this; omega⟩ ?_
  clear o1 bA bw1 hR b0 b1 hE1 hE2
  have hnil2 : n1 + n2 = 0 → s = none ∧ c = 0 := fun q => by have := hnil q; simp at this; exact ⟨this.1, this.2.2⟩
  have Hnil := Lib.hid hnil2
  clear hnil hnil2 h1 h2
  generalize hC : w1.heap.size = C
  have hM : C + 1 = C + 1 := rfl
  generalize C + 1 = M at *
  clear hM hC
  generalize hN : w.heap.size = N
  have HN := Lib.hid hN
  clear hN
  generalize n1 + n2 = n at *
  intro W Z
  have a0 : W.cell? ⟨C, 0, none⟩ = some (.slice s n c) := cell_of Z.ch 0
  go_wp2_with fail
  clear a0
  go_loopw [22] (fun x wr => ∃ j : Nat, j ≤ n ∧ x = .int .i64 (j : Nat) ∧ (∀ y ∈ L.take j, FairE y) ∧ OfS w N C M s n c k L (seenL [] ((L.take j).map (·.1))) wr) (fun x _ => n + 1 - (intOf x).toNat)
  case atStart => exact ⟨0, by omega, rfl, by simp, Z⟩
  case round =>
    obtain ⟨j, hj, rfl, hf, Z⟩ := hrel
    have Hf := Lib.hid hf
    clear hf
    by_cases hjn : j < n
    · obtain ⟨x, hx⟩ : ∃ x, L[j]? = some x := ⟨_, List.getElem?_eq_getElem (by omega)⟩
      obtain ⟨b, off, rfl, hb, q1, q2⟩ := Z.e.get hx
      have Hx := Lib.hid hx
      clear hx
      go_upto_region 6 with fail
      refine wp_seen (fun W => OfS w N C M (some ⟨b, off, none⟩) n c k L (seenL [] ((L.take j).map (·.1))) W ∧ W.heap[wr.heap.size]? = some (.cells #[.int .u32 x.1, .int .i64 x.2] 34 (0, 0))) ⟨Z.below ((Below.refl _ _).alloc (Nat.le_refl _) _), heap_new rfl⟩ ?_
      clear Z q1 q2 hb
      generalize wr.heap.size = A
      rintro W ⟨Z, hA⟩
      have x0 : W.cell? ⟨A, 0, none⟩ = some (.int .u32 x.1) := cell_of hA 0
      have x1 : W.cell? ⟨A, 1, none⟩ = some (.int .i64 x.2) := cell_of hA 1
      have r0 : W.cell? ⟨N, 0, none⟩ = some (.slice none 0 0) := cell_of Z.res 0
      have r1 : W.cell? ⟨N, 1, none⟩ = some (.int .u32 0) := cell_of Z.res 1
      have f0 : W.frozen? ⟨N, 0, none⟩ = false := frozen_of Z.res 0
      have f1 : W.frozen? ⟨N, 1, none⟩ = false := frozen_of Z.res 1
      by_cases hbad : FairE x
      · have hfe := hbad
        unfold FairE at hbad
        obtain ⟨g1, g2, g3⟩ := hbad
        have g1' : ¬ (4194304 ≤ x.1) := by omega
        have g2' : ¬ (x.2 < 0) := by omega
        have g3' : ¬ (1099511627776 < x.2) := by omega
        obtain ⟨W2, hp, m2, k2⟩ := Z.m.put x.1
        have Z2 := Z.map k2 m2
        have hT : addT (seenL [] ((L.take j).map (·.1))) x.1 = seenL [] ((L.take (j + 1)).map (·.1)) := by
          rw [List.take_add_one, Hx.out, List.map_append, seenL_append]; rfl
        rw [hT] at Z2
        clear hT m2 k2
        have HF := Lib.hid hfe
        clear hfe g2 g3 g1
        go_wp2_with fail
        go_roundw
        case rel => exact ⟨j + 1, by omega, by go_num, fun y hy => by
          rw [List.take_add_one, Hx.out] at hy
          rcases List.mem_append.1 hy with q | q
          · exact Hf.out y q
          · simp at q; subst q; exact HF.out, Z2⟩
        all_goals (simp [intOf]; omega)
      · have hnf : ¬ FairL L := fun q => hbad (q.1 x (List.mem_of_getElem? Hx.out))
        unfold FairE at hbad
        have Hbad := Lib.hid hbad
        clear hbad
        by_cases g1 : 4194304 ≤ x.1
        · go_wp2_with fail
          refine post_seen (fun X => Below w.heap.size w X ∧ X.heap[N]? = some (.cells #[.slice none 0 0, .int .u32 0] 53 (0, 0))) ⟨(Z.bel.setCell Z.o0 _).setCell Z.o0 _, heap_set (heap_set Z.res _) _⟩ ?_
          rintro X ⟨bX, hX⟩
          have s0 : X.cell? ⟨N, 0, none⟩ = some (.slice none 0 0) := cell_of hX 0
          have s1 : X.cell? ⟨N, 1, none⟩ = some (.int .u32 0) := cell_of hX 1
          clear r0 r1 f0 f1 x0 x1 
          exact bodyPost_ret (v := .tuple #[.agg #[.slice none 0 0, .int .u32 0], .int .i64 2]) (by simp [results, Try.results24, go_sem, s0, s1]) rfl ⟨bX, .inr ⟨hnf, rfl⟩⟩
        · by_cases g2 : x.2 < 0
          · go_wp2_with fail
            refine post_seen (fun X => Below w.heap.size w X ∧ X.heap[N]? = some (.cells #[.slice none 0 0, .int .u32 0] 53 (0, 0))) ⟨(Z.bel.setCell Z.o0 _).setCell Z.o0 _, heap_set (heap_set Z.res _) _⟩ ?_
            rintro X ⟨bX, hX⟩
            have s0 : X.cell? ⟨N, 0, none⟩ = some (.slice none 0 0) := cell_of hX 0
            have s1 : X.cell? ⟨N, 1, none⟩ = some (.int .u32 0) := cell_of hX 1
            clear r0 r1 f0 f1 x0 x1 
            exact bodyPost_ret (v := .tuple #[.agg #[.slice none 0 0, .int .u32 0], .int .i64 2]) (by simp [results, Try.results24, go_sem, s0, s1]) rfl ⟨bX, .inr ⟨hnf, rfl⟩⟩
          · have g3 : 1099511627776 < x.2 := by
              have := Hbad.out
              omega
            go_wp2_with fail
            refine post_seen (fun X => Below w.heap.size w X ∧ X.heap[N]? = some (.cells #[.slice none 0 0, .int .u32 0] 53 (0, 0))) ⟨(Z.bel.setCell Z.o0 _).setCell Z.o0 _, heap_set (heap_set Z.res _) _⟩ ?_
            rintro X ⟨bX, hX⟩
            have s0 : X.cell? ⟨N, 0, none⟩ = some (.slice none 0 0) := cell_of hX 0
            have s1 : X.cell? ⟨N, 1, none⟩ = some (.int .u32 0) := cell_of hX 1
            clear r0 r1 f0 f1 x0 x1 
            exact bodyPost_ret (v := .tuple #[.agg #[.slice none 0 0, .int .u32 0], .int .i64 2]) (by simp [results, Try.results24, go_sem, s0, s1]) rfl ⟨bX, .inr ⟨hnf, rfl⟩⟩
    · obtain rfl : n = j := by omega
      have ln := Z.m.len
      have hle : (seenL [] ((L.take n).map (·.1))).length ≤ n := by
        have := seenL_le [] ((L.take n).map (·.1))
        rw [List.length_map, List.length_take, List.length_nil] at this; omega
      have a0 : wr.cell? ⟨C, 0, none⟩ = some (.slice s n c) := cell_of Z.ch 0
      have a1 : wr.cell? ⟨C, 1, none⟩ = some (.int .u32 k) := cell_of Z.ch 1
      have r0 : wr.cell? ⟨N, 0, none⟩ = some (.slice none 0 0) := cell_of Z.res 0
      have r1 : wr.cell? ⟨N, 1, none⟩ = some (.int .u32 0) := cell_of Z.res 1
      have f0 : wr.frozen? ⟨N, 0, none⟩ = false := frozen_of Z.res 0
      have f1 : wr.frozen? ⟨N, 1, none⟩ = false := frozen_of Z.res 1
      have htk : L.take n = L := List.take_of_length_le (by omega)
      have hq : (seenL [] ((L.take n).map (·.1))).length = n ↔ (L.map (·.1)).Nodup := by
        have := seenL_nodup (L.map (·.1))
        rw [htk, List.length_map, hlen] at *; exact this
      rw [htk] at Hf
      have Hq := Lib.hid hq
      clear hq htk
      generalize (seenL [] ((L.take n).map (·.1))).length = t at *
      have h97 : ¬ ((2097152 : Int) < (t : Int)) := by omega
      by_cases ht : t = n
      · have hfair : FairL L := ⟨Hf.out, Hq.out.1 ht⟩
        subst ht
        go_wp2_with fail
        refine post_seen (fun X => Below w.heap.size w X ∧ X.heap[N]? = some (.cells #[.slice s t c, .int .u32 k] 53 (0, 0)) ∧ Ents X s L) ⟨(Z.bel.setCell Z.o0 _).setCell Z.o0 _, heap_set (heap_set Z.res _) _, (Z.e.set Z.ne).set Z.ne⟩ ?_
        rintro X ⟨bX, hX, eX⟩
        have s0 : X.cell? ⟨N, 0, none⟩ = some (.slice s t c) := cell_of hX 0
        have s1 : X.cell? ⟨N, 1, none⟩ = some (.int .u32 k) := cell_of hX 1
        clear r0 r1 f0 f1 a0 a1
        exact bodyPost_ret (v := .tuple #[.agg #[.slice s t c, .int .u32 k], .int .i64 0]) (by simp [results, Try.results24, go_sem, s0, s1]) rfl ⟨bX, .inl ⟨hfair, s, c, by rw [hlen], eX, fun q => Hnil.out (by omega)⟩⟩
      · have hnf : ¬ FairL L := fun q => ht (Hq.out.2 q.2)
        have ht2 : ¬ ((t : Int) = (n : Int)) := by omega
        go_wp2_with fail
        refine post_seen (fun X => Below w.heap.size w X ∧ X.heap[N]? = some (.cells #[.slice none 0 0, .int .u32 0] 53 (0, 0))) ⟨(Z.bel.setCell Z.o0 _).setCell Z.o0 _, heap_set (heap_set Z.res _) _⟩ ?_
        rintro X ⟨bX, hX⟩
        have s0 : X.cell? ⟨N, 0, none⟩ = some (.slice none 0 0) := cell_of hX 0
        have s1 : X.cell? ⟨N, 1, none⟩ = some (.int .u32 0) := cell_of hX 1
        clear r0 r1 f0 f1 a0 a1
        exact bodyPost_ret (v := .tuple #[.agg #[.slice none 0 0, .int .u32 0], .int .i64 2]) (by simp [results, Try.results24, go_sem, s0, s1]) rfl ⟨bX, .inr ⟨hnf, rfl⟩⟩
end Go.Proofs.Yteibleghnadelaa
