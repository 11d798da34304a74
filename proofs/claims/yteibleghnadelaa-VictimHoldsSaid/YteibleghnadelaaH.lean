/-
  The contract of victims.
-/
import Derived.Test.YteibleghnadelaaG
import Derived.Deep.RegionLaw
namespace Go.Proofs.Yteibleghnadelaa
open Go.ChangeShapes Go.WideShapes Go.ChangeAt Go.RowKit
set_option linter.unusedVariables false

theorem news_one {w : World} {B : Nat} {u : Value} {t : TypeId} (h : w.heap[B]? = some (.cells #[u] t (0, 0))) : ∀ j v, [u][j]? = some v → w.cell? ((⟨B, 0, none⟩ : Addr).add j) = some v := fun j v hv => by
  match j, hv with
  | 0, hv =>
    obtain rfl : u = v := by simpa using hv
    rw [add_at]; exact cell_of h 0
/-- What the loop of victims holds on to. -/
structure VS (w : World) (O : List (Int × Int)) (m : Nat) (v : Value) (A : Option Addr) (W : World) : Prop where
  bel : Below w.heap.size w W
  own : W.ownsRow w.heap.size 25 1 v m (slotsL ((O.map (·.1)).take m))
  rest : Ents W A (O.drop m)
  ne : ∀ i b off, v.ownBlock = some i → A = some ⟨b, off, none⟩ → b ≠ i
theorem VS.step {w wr w3 X : World} {O : List (Int × Int)} {m b off off2 g cap2 : Nat} {v : Value} {x : Int × Int} (Z : VS w O m v (some ⟨b, off, none⟩) wr) (hb : b < wr.heap.size) (hx : O[m]? = some x) (bX : Below wr.heap.size wr X)
    (o3 : w3.ownsRow w.heap.size 25 1 (.slice (some ⟨g, 0, none⟩) (m + 1) cap2) (m + 1) (slotsL ((O.map (·.1)).take m) ++ [.int .u32 x.1])) (gr : X.grownBy w3 v.ownBlock) (pl : v.ownBlock = some g ∨ g = X.heap.size) (ho : off2 = off + 2 ∨ O.length ≤ m + 1) :
    VS w O (m + 1) (.slice (some ⟨g, 0, none⟩) (m + 1) cap2) (some ⟨b, off2, none⟩) w3 := by
  have hwr := Z.bel.size
  have hX := bX.size
  have hnb : some b ≠ v.ownBlock := fun q => Z.ne b b off q.symm rfl rfl
  have hbg : b ≠ g := by
    rcases pl with q | q
    · exact Z.ne g b off q rfl
    · omega
  refine ⟨Below.grown (Z.bel.trans (bX.mono hwr)) gr (own_block Z.own) (by omega), ?_, fun h0 => ?_, fun i b' off' q1 q2 => ?_⟩
  · rw [List.take_add_one, List.getElem?_map, hx]
    unfold slotsL at *
    rw [List.map_append]; exact o3
  · rw [List.length_drop] at h0
    have hoff : off2 = off + 2 := by omega
    subst hoff
    obtain ⟨b1, off1, e, _, hc⟩ := Z.rest (by rw [List.length_drop]; omega)
    obtain ⟨rfl, rfl⟩ : b = b1 ∧ off = off1 := by simpa using e
    have hk : w3.heap[b]? = wr.heap[b]? := (gr.block b (by omega) hnb).trans (bX.block b hb)
    refine ⟨b, off + 2, rfl, by have := gr.size; omega, fun i y hy => ?_⟩
    rw [cell_block hk, cell_block hk]
    have := hc (i + 1) y (by rw [List.getElem?_drop] at hy ⊢; rw [← hy]; congr 1; omega)
    rw [show off + 2 + i * 2 = off + (i + 1) * 2 by omega]
    exact this
  · have q1 : g = i := by simpa [Value.ownBlock] using q1
    have q2 : b = b' ∧ off2 = off' := by simpa using q2
    rw [← q1, ← q2.1]; exact hbg
set_option maxHeartbeats 4000000 in
theorem victims_is {s : Option Addr} {n c : Nat} {k count bytes : Int} {L : List (Int × Int)} {w : World} (hE : Ents w s L) (hL : L.length = n) (h1 : n ≤ 500) (h0 : n = 0 → s = none ∧ c = 0) (hf : ∀ x ∈ L, FairE x) :
    Calls Try.prog 28 #[.agg #[.slice s n c, .int .u32 k], .int .i64 count, .int .i64 bytes] w fun e w' => ∃ v, e = .returned v ∧ w'.ownsRow w.heap.size 25 1 v (many L k count bytes) (slotsL (victimsL L k count bytes)) ∧ Below w.heap.size w w' := by
  have hA : (w.alloc (.cells #[.slice s n c, .int .u32 k] 53)).heap[w.heap.size]? = some (.cells #[.slice s n c, .int .u32 k] 53 (0, 0)) := heap_new rfl
  have bA : Below w.heap.size w (w.alloc (.cells #[.slice s n c, .int .u32 k] 53)) := (Below.refl _ _).alloc (Nat.le_refl _) _
  have htb : ∀ j, 0 ≤ total (L.take j) ∧ total (L.take j) ≤ total L := total_take_bound hf
  have htt := total_bound hf
  have htot : total L ≤ 549755813888000 := by omega
  have Htb := Lib.hid htb
  clear htb
  have Hst := Lib.hid (fun m => many_step (l := L) (keep := k) (count := count) (bytes := bytes) (m := m))
  have Hv : RowKit.Hid (victimsL L k count bytes = ((orderL k L).map (·.1)).take (many L k count bytes)) := Lib.hid rfl
  have hmle := many_le L k count bytes
  unfold Stays at Hst
  rw [hL] at Hst
  generalize victimsL L k count bytes = VL at *
  generalize many L k count bytes = M at *
  obtain ⟨i25, hi25, hz25, hs25, hb25⟩ := info_parts info25
  go_enter Try.func28, Try.ntmps28
  go_upto_region 1 with fail
  refine wp_seen (fun W => Below w.heap.size w W ∧ W.heap[w.heap.size]? = some (.cells #[.slice s n c, .int .u32 k] 53 (0, 0)) ∧ Ents W s L) ⟨bA, hA, hE.below bA (Nat.le_refl _)⟩ ?_
  clear hA bA
  generalize hN : w.heap.size = N
  have HN := Lib.hid hN
  clear hN
  rintro W ⟨bW, cW, eW⟩
  have a0 : W.cell? ⟨N, 0, none⟩ = some (.slice s n c) := cell_of cW 0
  go_wp2_with fail
  go_loopw [8, 19] (fun y x wr => ∃ j : Nat, j ≤ n ∧ x = .int .i64 (j : Nat) ∧ y = .int .i64 (total (L.take j)) ∧ Below N w wr ∧ wr.heap[N]? = some (.cells #[.slice s n c, .int .u32 k] 53 (0, 0)) ∧ Ents wr s L) (fun _ x _ => n + 1 - (intOf x).toNat)
  case atStart => exact ⟨0, by omega, rfl, rfl, bW, cW, eW⟩
  case round =>
    obtain ⟨j, hj, rfl, rfl, bw, cw, ew⟩ := hrel
    clear bW cW eW a0
    by_cases hjn : j < n
    · obtain ⟨x, hx⟩ : ∃ x, L[j]? = some x := ⟨_, List.getElem?_eq_getElem (by omega)⟩
      obtain ⟨b, off, rfl, hb, q1, q2⟩ := ew.get hx
      have ht := total_take_succ hx
      have hb1 := Htb.out j
      have hb2 := Htb.out (j + 1)
      have Ht := Lib.hid ht
      rw [ht] at hb2
      clear ht hx
      generalize hT : total (L.take j) = t at *
      have HT := Lib.hid hT
      clear hT
      go_wp2_with fail
      go_roundw
      case rel => exact ⟨j + 1, by omega, by go_num, by rw [Ht.out], bw.alloc (by have := bw.size; have := HN.out; omega) _, heap_alloc cw _, ew.below ((Below.refl _ _).alloc (Nat.le_refl _) _) (Nat.le_refl _)⟩
      all_goals (simp [intOf]; omega)
    · obtain rfl : n = j := by omega
      have htk : L.take n = L := List.take_of_length_le (by omega)
      rw [htk]
      have a0 : wr.cell? ⟨N, 0, none⟩ = some (.slice s n c) := cell_of cw 0
      have a1 : wr.cell? ⟨N, 1, none⟩ = some (.int .u32 k) := cell_of cw 1
      have C := order_is (k := k) ew hL h1 h0
      go_wp2_with (first | (go_at_call 25; refine C.mono ?_; clear C; rintro e w2 ⟨v, rfl, o2, b2⟩; obtain ⟨A, cc, rfl⟩ := own_shape o2))
      have B2 : Below w.heap.size w w2 := (HN.out ▸ bw : Below w.heap.size w wr).trans (b2.mono (by have := bw.size; omega))
      have Z0 : VS w (orderL k L) 0 (.slice none 0 0) A w2 := ⟨B2, World.ownsRow_nil _ _ _ _, (Ents.of_owns o2).2, fun i b off q => by cases q⟩
      have hcc : (orderL k L).length ≤ cc := by
        rcases o2.2 with ⟨q, q0⟩ | ⟨g, c3, cur, q, _, _, hn, _⟩
        · omega
        · simp at q; omega
      clear a0 a1 ew cw bw o2 b2 B2 hE h0 htk
      have hOn := orderL_length k L
      have hOf : ∀ x ∈ orderL k L, FairE x := fun x hx => hf x (orderL_sub x hx)
      have hOt : ∀ j, 0 ≤ total ((orderL k L).take j) ∧ total ((orderL k L).take j) ≤ total L := fun j => by
        have h1 := total_take_bound hOf j
        have h2 := total_order_le (keep := k) hf
        omega
      have HOf := Lib.hid hOf
      have HOt := Lib.hid hOt
      rw [hL] at hOn
      clear hOf hOt hf htt
      generalize orderL k L = O at *
      generalize total L = tot at *
      generalize hlO : O.length = len at *
      have HlO := Lib.hid hlO
      clear hlO
      go_loopw [7, 8, 11, 12] (fun a7 a8 a11 a12 wr => ∃ (m : Nat) (v : Value) (A : Option Addr) (cc : Nat), m ≤ M ∧ a7 = .int .i64 ((n : Int) - (m : Int)) ∧ a8 = .int .i64 (tot - total (O.take m)) ∧ a11 = v ∧ a12 = .slice A (len - m) cc ∧ len - m ≤ cc ∧ VS w O m v A wr) (fun a7 _ _ _ _ => (intOf a7).toNat)
      case atStart => exact ⟨0, _, A, cc, by omega, by simp, by simp [total], rfl, rfl, by omega, Z0⟩
      case round =>
        obtain ⟨m, v, A, cc, hm, rfl, rfl, rfl, rfl, hcc, Z⟩ := hrel
        clear Z0
        have hst := Hst.out m hm
        have hob := HOt.out m
        have Hob1 := Lib.hid (HOt.out (m + 1))
        generalize hd : total (O.take m) = d at *
        have Hd := Lib.hid hd
        clear hd
        by_cases hmM : m < M
        · obtain ⟨q1, q2⟩ := hst.1 hmM
          obtain ⟨x, hx⟩ : ∃ x, O[m]? = some x := ⟨_, List.getElem?_eq_getElem (by rw [HlO.out]; omega)⟩
          have hx2 : (O.drop m)[0]? = some x := by simpa using hx
          obtain ⟨b, off, rfl, hb, p1, p2⟩ := Z.rest.get hx2
          rw [Nat.zero_mul, Nat.add_zero] at p1 p2
          have ht := total_take_succ hx
          have Hx := Lib.hid hx
          have hb1 := Hob1.out
          rw [ht, Hd.out] at hb1
          have Ht := Lib.hid ht
          clear ht hx hx2 hst
          have hlm : (0 : Int) < ((len - m : Nat) : Int) := by omega
          have hlm1 : (1 : Int) ≤ ((len - m : Nat) : Int) := by omega
          by_cases hc : count < (n : Int) - (m : Int)
          · go_upto_region 10 with fail
            go_region
            clear p1 p2
            have p1 : wr.cell? ⟨b, off, none⟩ = some (.int .u32 x.1) := by
              have := (Z.rest.get (show (O.drop m)[0]? = some x by simpa using Hx.out))
              obtain ⟨b', off', e, _, q1, _⟩ := this
              obtain ⟨rfl, rfl⟩ : b = b' ∧ off = off' := by simpa using e
              simpa using q1
            have hwr := Z.bel.size
            go_upto_region 11 with fail
            go_region_law (refine step_append_lies _ rfl (.tmp 51) (.tmp 56) 39 rfl w.heap.size 25 i25 _ 1 4 Try.underlying39 hi25 hz25 hs25 hb25 rfl (by decide) u11 m (slotsL ((O.map (·.1)).take m)) rfl (by first | exact Z.own.drew.alloc _ | exact Z.own.alloc _) ⟨wr.heap.size, 0, none⟩ 1 1 [.int .u32 x.1] rfl rfl (news_one (by first | exact heap_new rfl | exact heap_new (by simp))) (by simp [Value.oneCell']) (by decide) (by unfold maxLen; omega) (by omega) (by simp; omega) _ rfl ?_; intro g cap2 w3 o3 gr3 pl3 lt3)
            all_goals have bX : Below wr.heap.size wr (wr.alloc (.cells #[.int .u32 x.1] 25)).drew.drew := ((Below.refl _ _).alloc (Nat.le_refl _) _).drew.drew
            all_goals go_wp2_with fail
            all_goals refine ⟨⟨_, _, _, _, ⟨m + 1, by omega, ?_, ?_, _, _, by rw [show len - m - 1 = len - (m + 1) by omega], by omega, Z.step hb Hx.out bX o3 gr3 pl3 (by rw [HlO.out]; omega)⟩, rfl, rfl, rfl, rfl⟩, by simp [intOf]; omega⟩
            all_goals congr 1
            all_goals first | (rw [Ht.out, Hd.out]; omega) | omega
          · have hby : bytes < tot - d := by omega
            go_upto_region 10 with fail
            go_region
            clear p1 p2
            have p1 : wr.cell? ⟨b, off, none⟩ = some (.int .u32 x.1) := by
              have := (Z.rest.get (show (O.drop m)[0]? = some x by simpa using Hx.out))
              obtain ⟨b', off', e, _, q1, _⟩ := this
              obtain ⟨rfl, rfl⟩ : b = b' ∧ off = off' := by simpa using e
              simpa using q1
            have hwr := Z.bel.size
            go_upto_region 11 with fail
            go_region_law (refine step_append_lies _ rfl (.tmp 51) (.tmp 56) 39 rfl w.heap.size 25 i25 _ 1 4 Try.underlying39 hi25 hz25 hs25 hb25 rfl (by decide) u11 m (slotsL ((O.map (·.1)).take m)) rfl (by first | exact Z.own.drew.alloc _ | exact Z.own.alloc _) ⟨wr.heap.size, 0, none⟩ 1 1 [.int .u32 x.1] rfl rfl (news_one (by first | exact heap_new rfl | exact heap_new (by simp))) (by simp [Value.oneCell']) (by decide) (by unfold maxLen; omega) (by omega) (by simp; omega) _ rfl ?_; intro g cap2 w3 o3 gr3 pl3 lt3)
            all_goals have bX : Below wr.heap.size wr (wr.alloc (.cells #[.int .u32 x.1] 25)).drew.drew := ((Below.refl _ _).alloc (Nat.le_refl _) _).drew.drew
            all_goals go_wp2_with fail
            all_goals refine ⟨⟨_, _, _, _, ⟨m + 1, by omega, ?_, ?_, _, _, by rw [show len - m - 1 = len - (m + 1) by omega], by omega, Z.step hb Hx.out bX o3 gr3 pl3 (by rw [HlO.out]; omega)⟩, rfl, rfl, rfl, rfl⟩, by simp [intOf]; omega⟩
            all_goals congr 1
            all_goals first | (rw [Ht.out, Hd.out]; omega) | omega
        · have hmM2 : m = M := by omega
          have hend : ∃ v2, wr.ownsRow w.heap.size 25 1 u11 M (slotsL VL) ∧ Below w.heap.size w wr ∧ v2 = u11 := ⟨_, by rw [Hv.out, ← hmM2]; exact Z.own, Z.bel, rfl⟩
          have Hend := Lib.hid hend
          clear hend hmM2
          by_cases hlen : m < len
          · have hS : (n : Int) - (m : Int) ≤ count ∧ tot - d ≤ bytes := Decidable.byContradiction fun q => hmM (hst.2 ⟨hlen, q⟩)
            obtain ⟨g1, g2⟩ := hS
            have g1' : ¬ (count < (n : Int) - (m : Int)) := by omega
            have g2' : ¬ (bytes < tot - d) := by omega
            have hlm : (0 : Int) < ((len - m : Nat) : Int) := by omega
            clear hst
            go_wp2_with fail
            go_ret
            obtain ⟨v2, e1, e2, rfl⟩ := Hend.out
            exact ⟨_, rfl, e1, e2⟩
          · have hlm : len - m = 0 := by omega
            rw [hlm]
            clear hst
            go_wp2_with fail
            go_ret
            obtain ⟨v2, e1, e2, rfl⟩ := Hend.out
            exact ⟨_, rfl, e1, e2⟩
end Go.Proofs.Yteibleghnadelaa
