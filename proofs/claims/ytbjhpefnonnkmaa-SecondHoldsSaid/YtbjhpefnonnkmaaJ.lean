/-
  The contracts of the reference's Use where the hand goes on, Use whole, Drop.
-/
import Derived.Test.YtbjhpefnonnkmaaI
namespace Go.Proofs.Ytbjhpefnonnkmaa
open Go.ChangeShapes Go.WideShapes Go.ChangeAt Go.RowKit
set_option linter.unusedVariables false

set_option maxHeartbeats 8000000 in
theorem ruse_sweep {a n cap h : Nat} {R : List Pl} {w : World} (k : Int) (s : Row w 78 a cap R) (hn : R.length = n) (hl : n ≤ 1024) (hh : h < n) (hk : atR R k = none) (hfr : freeR R = none) :
    Calls Try.prog 32 #[.agg #[.slice (some ⟨a, 0, none⟩) n cap, .int .i64 (h : Nat)], .int .u32 k] w fun e w' => RUsed w (useR R h k) e w' := by
  have hat : atI R k = -1 := by unfold atI; rw [hk]
  have hu : useR R h k = ⟨(sweep R.length R h).1.set (sweep R.length R h).2 ⟨k, true, false⟩, ((sweep R.length R h).2 + 1) % R.length, false, true, ((sweep R.length R h).1.getD (sweep R.length R h).2 Pl.no).key⟩ := by unfold useR; rw [hk]; simp only [hfr]
  rw [hu]
  have hS0 : Sweeps R h k R h R.length := ⟨rfl, by omega, all_full hfr, hk, List.countP_le_length, rfl⟩
  have hall := all_full hfr
  have hn0 : 0 < n := by omega
  have hz : ¬ (n : Int) = 0 := by omega
  clear hu hk
  have lt := s.lt
  go_enter Try.func32, Try.ntmps32
  go_upto_region 1 with fail
  refine wp_seen (RB w a n cap h #[.slice none 0 0, .int .i64 0] #[.bool false, .bool false, .int .u32 0] 37 R) ⟨(((Below.refl _ _).alloc (Nat.le_refl _) _).alloc (by simp) _).alloc (by simp; omega) _, heap_alloc (heap_alloc (heap_new rfl) _) _, heap_alloc (heap_new (by simp)) _, heap_new (by simp), ((s.alloc _).alloc _).alloc _, by omega, by omega, by omega⟩ ?_
  intro W b
  have c0 : W.cell? ⟨w.heap.size, 0, none⟩ = some (.slice (some ⟨a, 0, none⟩) n cap) := cell_of b.box 0
  have c1 : W.cell? ⟨w.heap.size, 1, none⟩ = some (.int .i64 (h : Nat)) := cell_of b.box 1
  go_upto_region 2 with (first | (go_at_call 36; refine (copy_n b.row hn (by omega) hl).mono ?_; rintro e Wc ⟨a2, cap2, rfl, bc, rc, ac⟩; have bb := b.below bc; clear c0 c1; have c0 : Wc.cell? ⟨w.heap.size, 0, none⟩ = some (.slice (some ⟨a, 0, none⟩) n cap) := cell_of bb.box 0; have c1 : Wc.cell? ⟨w.heap.size, 1, none⟩ = some (.int .i64 (h : Nat)) := cell_of bb.box 1; have gc0 : Wc.frozen? ⟨w.heap.size, 0, none⟩ = false := frozen_of bb.box 0; have gc1 : Wc.frozen? ⟨w.heap.size, 1, none⟩ = false := frozen_of bb.box 1))
  have ha : w.heap.size + 1 + 1 < a2 := Nat.lt_of_lt_of_le (lt_of_heap b.res2) ac
  refine wp_seen (RB w a2 n cap2 h #[.slice none 0 0, .int .i64 0] #[.bool false, .bool false, .int .u32 0] 37 R) (bb.setBox rc ha) ?_
  intro W1 b1
  clear c0 c1 gc0 gc1 bb b rc ac bc
  have c0 : W1.cell? ⟨w.heap.size, 0, none⟩ = some (.slice (some ⟨a2, 0, none⟩) n cap2) := cell_of b1.box 0
  have c1 : W1.cell? ⟨w.heap.size, 1, none⟩ = some (.int .i64 (h : Nat)) := cell_of b1.box 1
  have gc0 : W1.frozen? ⟨w.heap.size, 0, none⟩ = false := frozen_of b1.box 0
  have gc1 : W1.frozen? ⟨w.heap.size, 1, none⟩ = false := frozen_of b1.box 1
  go_upto_region 3 with (first | (go_at_call 31; refine (at_n k b1.row hn hl).mono ?_; rintro e Wa ⟨rfl, rfl⟩; rw [hat]))
  refine wp_seen (RB w a2 n cap2 h #[.slice none 0 0, .int .i64 0] #[.bool false, .bool false, .int .u32 0] 37 R) (b1.below ((Below.refl _ _).alloc (Nat.le_refl _) _)) ?_
  intro W2 b2
  clear c0 c1 gc0 gc1
  clear b1
  go_wp2_with fail
  go_loopw [7] (fun v wr => ∃ j : Nat, j ≤ n ∧ v = .int .i64 (j : Nat) ∧ wr = W2) (fun v _ => n + 1 - (intOf v).toNat)
  case atStart => exact ⟨0, by omega, rfl, rfl⟩
  case round =>
    obtain ⟨j, hj, rfl, rfl⟩ := hrel
    by_cases hj2 : j < n
    · have hlt : j < R.length := by omega
      obtain ⟨x, hx⟩ : ∃ x, R[j]? = some x := ⟨_, List.getElem?_eq_getElem hlt⟩
      have hfu := hall x (List.mem_of_getElem? hx)
      have hj' : ((j : Nat) : Int) < (n : Int) := by omega
      have e1 : wrap64 ((j : Int) + 1) = (j : Int) + 1 := wrap_in (by omega)
      have c0 : wr.cell? ⟨w.heap.size, 0, none⟩ = some (.slice (some ⟨a2, 0, none⟩) n cap2) := cell_of b2.box 0
      have c1 : wr.cell? ⟨w.heap.size, 1, none⟩ = some (.int .i64 (h : Nat)) := cell_of b2.box 1
      have gc0 : wr.frozen? ⟨w.heap.size, 0, none⟩ = false := frozen_of b2.box 0
      have gc1 : wr.frozen? ⟨w.heap.size, 1, none⟩ = false := frozen_of b2.box 1
      have f0 : wr.cell? ⟨a2, j * 3, none⟩ = some (.int .u32 x.key) := b2.row.cell hx 0 (by omega)
      have f1 : wr.cell? ⟨a2, j * 3 + 1, none⟩ = some (.bool x.full) := b2.row.cell hx 1 (by omega)
      have f2 : wr.cell? ⟨a2, j * 3 + 2, none⟩ = some (.bool x.mark) := b2.row.cell hx 2 (by omega)
      have gf0 : wr.frozen? ⟨a2, j * 3, none⟩ = false := b2.row.frozen _
      have gf1 : wr.frozen? ⟨a2, j * 3 + 1, none⟩ = false := b2.row.frozen _
      have gf2 : wr.frozen? ⟨a2, j * 3 + 2, none⟩ = false := b2.row.frozen _
      rw [hfu] at f1
      go_wp2_with fail
      go_roundw
      case rel => exact ⟨j + 1, by omega, by go_num, trivial⟩
      all_goals (simp [intOf]; omega)
    · have hj' : ¬ ((j : Nat) : Int) < (n : Int) := by omega
      have hjd : decide (j < n) = false := by simpa using hj2
      have c0 : wr.cell? ⟨w.heap.size, 0, none⟩ = some (.slice (some ⟨a2, 0, none⟩) n cap2) := cell_of b2.box 0
      have c1 : wr.cell? ⟨w.heap.size, 1, none⟩ = some (.int .i64 (h : Nat)) := cell_of b2.box 1
      have gc0 : wr.frozen? ⟨w.heap.size, 0, none⟩ = false := frozen_of b2.box 0
      have gc1 : wr.frozen? ⟨w.heap.size, 1, none⟩ = false := frozen_of b2.box 1
      go_wp2_with fail
      clear c0 c1 gc0 gc1 hj hj2 hj' hjd
      go_loopw [60] (fun _ wz => ∃ R' h' f, Sweeps R h k R' h' f ∧ RB w a2 n cap2 h' #[.slice none 0 0, .int .i64 0] #[.bool false, .bool false, .int .u32 0] 37 R' wz) (fun _ wz => marksIn wz a2 n)
      case atStart => exact ⟨R, h, R.length, hS0, b2⟩
      case round =>
        obtain ⟨R', h', f, hS, b'⟩ := hrel
        clear b2 hS0
        have hlen : R'.length = n := by rw [hS.len]; exact hn
        have hlt : h' < R'.length := by rw [hlen, ← hn]; exact hS.hand
        obtain ⟨x, hx⟩ : ∃ x, R'[h']? = some x := ⟨_, List.getElem?_eq_getElem hlt⟩
        have hxf : x.full = true := hS.full x (List.mem_of_getElem? hx)
        have hi' : ((h' : Nat) : Int) < (n : Int) := by omega
        have HM := Lib.hid (b'.row.marks hlen)
        have e1 : wrap64 ((h' : Int) + 1) = (h' : Int) + 1 := wrap_in (by omega)
        have em := mod_num hn0 hl (show h' < n from hlen ▸ hlt)
        have c0 : wr.cell? ⟨w.heap.size, 0, none⟩ = some (.slice (some ⟨a2, 0, none⟩) n cap2) := cell_of b'.box 0
        have c1 : wr.cell? ⟨w.heap.size, 1, none⟩ = some (.int .i64 (h' : Nat)) := cell_of b'.box 1
        have gc0 : wr.frozen? ⟨w.heap.size, 0, none⟩ = false := frozen_of b'.box 0
        have gc1 : wr.frozen? ⟨w.heap.size, 1, none⟩ = false := frozen_of b'.box 1
        have f0 : wr.cell? ⟨a2, h' * 3, none⟩ = some (.int .u32 x.key) := b'.row.cell hx 0 (by omega)
        have f1 : wr.cell? ⟨a2, h' * 3 + 1, none⟩ = some (.bool x.full) := b'.row.cell hx 1 (by omega)
        have f2 : wr.cell? ⟨a2, h' * 3 + 2, none⟩ = some (.bool x.mark) := b'.row.cell hx 2 (by omega)
        have gf0 : wr.frozen? ⟨a2, h' * 3, none⟩ = false := b'.row.frozen _
        have gf1 : wr.frozen? ⟨a2, h' * 3 + 1, none⟩ = false := b'.row.frozen _
        have gf2 : wr.frozen? ⟨a2, h' * 3 + 2, none⟩ = false := b'.row.frozen _
        have EM := Lib.hid em
        clear em
        cases hmk : x.mark with
        | true =>
          rw [hmk] at f2
          go_upto_region 14 with fail
          refine wp_seen (RB w a2 n cap2 h' #[.slice none 0 0, .int .i64 0] #[.bool false, .bool false, .int .u32 0] 37 (R'.set h' ⟨x.key, x.full, false⟩)) (b'.setMark hx (by omega) false) ?_
          intro W3 b3
          clear c0 c1 gc0 gc1
          clear f0 f1 f2 gf0 gf1 gf2
          clear b'
          have c0 : W3.cell? ⟨w.heap.size, 0, none⟩ = some (.slice (some ⟨a2, 0, none⟩) n cap2) := cell_of b3.box 0
          have c1 : W3.cell? ⟨w.heap.size, 1, none⟩ = some (.int .i64 (h' : Nat)) := cell_of b3.box 1
          have gc0 : W3.frozen? ⟨w.heap.size, 0, none⟩ = false := frozen_of b3.box 0
          have gc1 : W3.frozen? ⟨w.heap.size, 1, none⟩ = false := frozen_of b3.box 1
          have b4 := b3.setHand ((h' + 1) % n)
          rw [← EM.out] at b4
          go_wp2_with fail
          obtain ⟨g, rfl, he, hle⟩ := sweep_step hx hmk hS.le
          have hm4 := b4.row.marks (n := n) (by simpa using hlen)
          have hmm := marks_unmark hx hmk
          have hS' : Sweeps R h k (R'.set h' ⟨x.key, x.full, false⟩) ((h' + 1) % n) g := ⟨by simp; exact hS.len, by rw [hn]; exact Nat.mod_lt _ (by omega), set_full hS.full hxf, atR_mark hx false hS.no, hle, by rw [hS.eq, he, hlen]⟩
          go_roundw
          case rel => exact ⟨R'.set h' ⟨x.key, x.full, false⟩, (h' + 1) % n, g, hS', b4⟩
          case measure => rw [HM.out, hm4]; exact Nat.lt_of_lt_of_eq (Nat.lt_succ_self _) hmm
        | false =>
          rw [hmk] at f2
          go_upto_region 17 with fail
          refine wp_seen (RB w a2 n cap2 h' #[.slice none 0 0, .int .i64 0] #[.bool false, .bool false, .int .u32 0] 37 (R'.set h' ⟨k, true, false⟩)) (b'.setPlace hlt (by omega) ⟨k, true, false⟩) ?_
          intro W3 b3
          clear c0 c1 gc0 gc1
          clear f0 f1 f2 gf0 gf1 gf2
          clear b'
          have c0 : W3.cell? ⟨w.heap.size, 0, none⟩ = some (.slice (some ⟨a2, 0, none⟩) n cap2) := cell_of b3.box 0
          have c1 : W3.cell? ⟨w.heap.size, 1, none⟩ = some (.int .i64 (h' : Nat)) := cell_of b3.box 1
          have gc0 : W3.frozen? ⟨w.heap.size, 0, none⟩ = false := frozen_of b3.box 0
          have gc1 : W3.frozen? ⟨w.heap.size, 1, none⟩ = false := frozen_of b3.box 1
          have b4 := b3.setHand ((h' + 1) % n)
          rw [← EM.out] at b4
          go_upto_region 18 with fail
          refine wp_seen (RB w a2 n cap2 ((h' + 1) % n) #[.slice none 0 0, .int .i64 0] #[.bool false, .bool false, .int .u32 0] 37 (R'.set h' ⟨k, true, false⟩)) b4 ?_
          intro W4 b5
          clear c0 c1 gc0 gc1
          clear b4 b3
          have hsw : sweep R.length R h = (R', h') := by rw [hS.eq]; exact sweep_stop hx hmk
          have hx2 : R'.getD h' Pl.no = x := by rw [List.getD_eq_getElem?_getD, hx]; rfl
          have hage : w.heap.size ≤ a2 := Nat.le_trans (Nat.le_trans (Nat.le_succ _) (Nat.le_succ _)) (Nat.le_of_lt ha)
          have hfin : ∀ (W : World), Below w.heap.size w W → Row W 78 a2 cap2 (R'.set h' ⟨k, true, false⟩) → RUsed w ⟨(sweep R.length R h).1.set (sweep R.length R h).2 ⟨k, true, false⟩, ((sweep R.length R h).2 + 1) % R.length, false, true, ((sweep R.length R h).1.getD (sweep R.length R h).2 Pl.no).key⟩ (.returned (.tuple #[.agg #[.slice (some ⟨a2, 0, none⟩) n cap2, .int .i64 (((h' + 1) % n : Nat) : Int)], .agg #[.bool false, .bool true, .int .u32 x.key]])) W := by
            intro W hb hr
            rw [hsw]
            refine ⟨a2, cap2, ?_, hb, hr, hage⟩
            show _ = Ending.returned (.tuple #[.agg #[.slice (some ⟨a2, 0, none⟩) (R'.set h' ⟨k, true, false⟩).length cap2, .int .i64 (((h' + 1) % R.length : Nat) : Int)], .agg #[.bool false, .bool true, .int .u32 (R'.getD h' Pl.no).key]])
            rw [hx2, List.length_set, hlen, hn]
          have c0 : W4.cell? ⟨w.heap.size, 0, none⟩ = some (.slice (some ⟨a2, 0, none⟩) n cap2) := cell_of b5.box 0
          have c1 : W4.cell? ⟨w.heap.size, 1, none⟩ = some (.int .i64 ((h' + 1) % n : Nat)) := cell_of b5.box 1
          have gc0 : W4.frozen? ⟨w.heap.size, 0, none⟩ = false := frozen_of b5.box 0
          have gc1 : W4.frozen? ⟨w.heap.size, 1, none⟩ = false := frozen_of b5.box 1
          have t0 : W4.cell? ⟨w.heap.size + 1, 0, none⟩ = some (.slice none 0 0) := cell_of b5.res 0
          have t1 : W4.cell? ⟨w.heap.size + 1, 1, none⟩ = some (.int .i64 0) := cell_of b5.res 1
          have gt0 : W4.frozen? ⟨w.heap.size + 1, 0, none⟩ = false := frozen_of b5.res 0
          have gt1 : W4.frozen? ⟨w.heap.size + 1, 1, none⟩ = false := frozen_of b5.res 1
          have u0 : W4.cell? ⟨w.heap.size + 1 + 1, 0, none⟩ = some (.bool false) := cell_of b5.res2 0
          have u1 : W4.cell? ⟨w.heap.size + 1 + 1, 1, none⟩ = some (.bool false) := cell_of b5.res2 1
          have u2 : W4.cell? ⟨w.heap.size + 1 + 1, 2, none⟩ = some (.int .u32 0) := cell_of b5.res2 2
          have gu0 : W4.frozen? ⟨w.heap.size + 1 + 1, 0, none⟩ = false := frozen_of b5.res2 0
          have gu1 : W4.frozen? ⟨w.heap.size + 1 + 1, 1, none⟩ = false := frozen_of b5.res2 1
          have gu2 : W4.frozen? ⟨w.heap.size + 1 + 1, 2, none⟩ = false := frozen_of b5.res2 2
          go_wp2_with fail
          refine post_seen (RB w a2 n cap2 ((h' + 1) % n) #[.slice (some ⟨a2, 0, none⟩) n cap2, .int .i64 (((h' + 1) % n) : Nat)] #[.bool false, .bool true, .int .u32 x.key] 37 (R'.set h' ⟨k, true, false⟩)) ((b5.setRes _ _).setTurn _ _ _) ?_
          intro W9 b9
          clear c0 c1 gc0 gc1
          clear t0 t1 gt0 gt1 u0 u1 u2 gu0 gu1 gu2
          have t0 : W9.cell? ⟨w.heap.size + 1, 0, none⟩ = some (.slice (some ⟨a2, 0, none⟩) n cap2) := cell_of b9.res 0
          have t1 : W9.cell? ⟨w.heap.size + 1, 1, none⟩ = some (.int .i64 (((h' + 1) % n) : Nat)) := cell_of b9.res 1
          have u0 : W9.cell? ⟨w.heap.size + 1 + 1, 0, none⟩ = some (.bool false) := cell_of b9.res2 0
          have u1 : W9.cell? ⟨w.heap.size + 1 + 1, 1, none⟩ = some (.bool true) := cell_of b9.res2 1
          have u2 : W9.cell? ⟨w.heap.size + 1 + 1, 2, none⟩ = some (.int .u32 x.key) := cell_of b9.res2 2
          exact bodyPost_ret (v := .tuple #[.agg #[.slice (some ⟨a2, 0, none⟩) n cap2, .int .i64 (((h' + 1) % n) : Nat)], .agg #[.bool false, .bool true, .int .u32 x.key]]) (by simp [results, Try.results32, go_sem, t0, t1, u0, u1, u2]) rfl (hfin _ b9.bel b9.row)

theorem ruse_is {a n cap h : Nat} {R : List Pl} {w : World} (k : Int) (s : Row w 78 a cap R) (hn : R.length = n) (hl : n ≤ 1024) (hh : h < n) :
    Calls Try.prog 32 #[.agg #[.slice (some ⟨a, 0, none⟩) n cap, .int .i64 (h : Nat)], .int .u32 k] w fun e w' => RUsed w (useR R h k) e w' := by
  cases hk : atR R k with
  | some i => exact ruse_hit k s hn hl hk
  | none =>
    cases hf : freeR R with
    | some i => exact ruse_free k s hn hl hk hf
    | none => exact ruse_sweep k s hn hl hh hk hf

end Go.Proofs.Ytbjhpefnonnkmaa
