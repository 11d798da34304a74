/-
  The contract of second.Use where the hand must go on; Use whole.
-/
import Derived.Test.YtbjhpefnonnkmaaD
namespace Go.Proofs.Ytbjhpefnonnkmaa
open Go.ChangeShapes Go.WideShapes Go.ChangeAt Go.RowKit
set_option linter.unusedVariables false

theorem atR_no {R : List Pl} {k : Int} {i : Nat} (h : atR R k = none) : atR (R.set i Pl.no) k = none := by
  unfold atR at *
  rw [List.findIdx?_eq_none_iff] at *
  intro y hy
  rcases List.mem_or_eq_of_mem_set hy with q | q
  · exact h y q
  · rw [q]; rfl
set_option maxHeartbeats 4000000 in
theorem use_sweep {p r cap m n : Nat} {R : List Pl} {h : Nat} {L : List (Int × Int)} {w : World} (k : Int) (s : IsSec w p r cap m R h L) (hM : MapOk R L) (hn : R.length = n) (hl : n ≤ 1024) (hh : h < n) (hk : atR R k = none) (hfr : freeR R = none) :
    Calls Try.prog 11 #[.pointer (some ⟨p, 0, none⟩), .int .u32 k] w fun e w' => Used w p r cap m (useR R h k) e w' := by
  have hj := (hM.look k).2 hk
  have hu : useR R h k = ⟨(sweep R.length R h).1.set (sweep R.length R h).2 ⟨k, true, false⟩, ((sweep R.length R h).2 + 1) % R.length, false, true, ((sweep R.length R h).1.getD (sweep R.length R h).2 Pl.no).key⟩ := by unfold useR; rw [hk]; simp only [hfr]
  rw [hu]
  have hge : ¬ (L.length : Int) < (n : Int) := by
    have : ¬ fulls R < R.length := by rw [free_iff, hfr]; simp
    rw [hM.length]; omega
  have hgn : ¬ L.length < n := by omega
  have hgd : decide (L.length < n) = false := by simpa using hgn
  have hS0 : Sweeps R h k R h R.length := ⟨rfl, by omega, all_full hfr, hk, List.countP_le_length, rfl⟩
  clear hu hk
  obtain ⟨hp, hr, hm⟩ := Boxed.ne (T := #[]) (W := w) s
  go_enter Try.func11, Try.ntmps11
  go_upto_region 1 with fail
  refine wp_seen (Boxed w p r cap m R h L #[.bool false, .bool false, .int .u32 0]) (Boxed.start s _) ?_
  intro W b
  clear s
  have c0 : W.cell? ⟨p, 0, none⟩ = some (.slice (some ⟨r, 0, none⟩) n cap) := by have := cell_of b.s.obj 0; rw [hn] at this; exact this
  have c2 : W.cell? ⟨p, 2, none⟩ = some (.map (some m)) := cell_of b.s.obj 2
  have hlk := b.s.mp.look k
  rw [hj] at hlk
  have hln := (show Mp W.drew m L from b.s.mp).len
  go_upto_region 7 with (first | (go_at_call 23; refine (zero_is b.s).mono ?_; rintro e w' ⟨rfl, rfl⟩))
  go_region
  refine ex_seen (Boxed w p r cap m R h L #[.bool false, .bool false, .int .u32 0]) b.drew ?_
  intro W1 b1
  clear c0 c2 hlk hln b
  go_wp2_with fail
  go_loopw [61] (fun _ wr => ∃ R' h' f, Sweeps R h k R' h' f ∧ MapOk R' L ∧ Boxed w p r cap m R' h' L #[.bool false, .bool false, .int .u32 0] wr) (fun _ wr => marksIn wr r n)
  case atStart => exact ⟨R, h, R.length, hS0, hM, b1⟩
  case round =>
    obtain ⟨R', h', f, hS, hM', b'⟩ := hrel
    clear b1 hS0 hM hge hgn hgd
    have hlen : R'.length = n := by rw [hS.len]; exact hn
    have hlt : h' < R'.length := by rw [hlen, ← hn]; exact hS.hand
    obtain ⟨x, hx⟩ : ∃ x, R'[h']? = some x := ⟨_, List.getElem?_eq_getElem hlt⟩
    have hxf : x.full = true := hS.full x (List.mem_of_getElem? hx)
    have lo : ¬ ((h' : Nat) : Int) < 0 := by omega
    have hi' : ((h' : Nat) : Int) < (n : Int) := by omega
    have hm0 := b'.s.row.marks hlen
    cases hmk : x.mark with
    | true =>
      have c0 : wr.cell? ⟨p, 0, none⟩ = some (.slice (some ⟨r, 0, none⟩) n cap) := by have := cell_of b'.s.obj 0; rw [hlen] at this; exact this
      have c1 : wr.cell? ⟨p, 1, none⟩ = some (.int .i64 (h' : Nat)) := cell_of b'.s.obj 1
      have f0 : wr.cell? ⟨r, h' * 3, none⟩ = some (.int .u32 x.key) := b'.s.row.cell hx 0 (by omega)
      have f2 : wr.cell? ⟨r, h' * 3 + 2, none⟩ = some (.bool x.mark) := b'.s.row.cell hx 2 (by omega)
      have g2 : wr.frozen? ⟨r, h' * 3 + 2, none⟩ = false := b'.s.row.frozen _

      rw [hmk] at f2
      go_upto_region 10 with fail
      go_region
      refine ex_seen (Boxed w p r cap m R' h' L #[.bool false, .bool false, .int .u32 0]) b'.drew ?_
      intro W2 b2
      clear c0 c1 f0 f2 g2 b'
      have c0 : W2.cell? ⟨p, 0, none⟩ = some (.slice (some ⟨r, 0, none⟩) n cap) := by have := cell_of b2.s.obj 0; rw [hlen] at this; exact this
      have c1 : W2.cell? ⟨p, 1, none⟩ = some (.int .i64 (h' : Nat)) := cell_of b2.s.obj 1
      have f0 : W2.cell? ⟨r, h' * 3, none⟩ = some (.int .u32 x.key) := b2.s.row.cell hx 0 (by omega)
      have f2 : W2.cell? ⟨r, h' * 3 + 2, none⟩ = some (.bool x.mark) := b2.s.row.cell hx 2 (by omega)
      have g2 : W2.frozen? ⟨r, h' * 3 + 2, none⟩ = false := b2.s.row.frozen _

      rw [hmk] at f2
      go_wp2_with fail
      go_region
      refine ex_seen (Boxed w p r cap m (R'.set h' ⟨x.key, x.full, false⟩) h' L #[.bool false, .bool false, .int .u32 0]) (b2.keep hp hr hm ((Keeps.refl [r] _).setCell (.inl (by simp)) _) (by simp) (b2.s.setMark hx false)).drew ?_
      intro W3 b3
      clear c0 c1 f0 f2 g2 b2
      obtain ⟨g, rfl, he, hle⟩ := sweep_step hx hmk hS.le
      go_wp2_with (first | (go_at_call 27; refine (next_is b3.s (by simpa using hlen) (by omega) hl).mono ?_; rintro e W4 ⟨rfl, k4, s4⟩; have b4 := b3.keep hp hr hm k4 (by simp) s4))
      have hm4 := b4.s.row.marks (n := n) (by simpa using hlen)
      have hmm := marks_unmark hx hmk
      go_roundw
      case rel => exact ⟨R'.set h' ⟨x.key, x.full, false⟩, (h' + 1) % n, g, ⟨by simp; exact hS.len, by rw [hn]; exact Nat.mod_lt _ (by omega), set_full hS.full hxf, atR_mark hx false hS.no, hle, by rw [hS.eq, he, hlen]⟩, hM'.mark hx false, b4⟩
      all_goals omega
    | false =>
      have c0 : wr.cell? ⟨p, 0, none⟩ = some (.slice (some ⟨r, 0, none⟩) n cap) := by have := cell_of b'.s.obj 0; rw [hlen] at this; exact this
      have c1 : wr.cell? ⟨p, 1, none⟩ = some (.int .i64 (h' : Nat)) := cell_of b'.s.obj 1
      have f0 : wr.cell? ⟨r, h' * 3, none⟩ = some (.int .u32 x.key) := b'.s.row.cell hx 0 (by omega)
      have f2 : wr.cell? ⟨r, h' * 3 + 2, none⟩ = some (.bool x.mark) := b'.s.row.cell hx 2 (by omega)
      have g2 : wr.frozen? ⟨r, h' * 3 + 2, none⟩ = false := b'.s.row.frozen _

      rw [hmk] at f2
      go_upto_region 10 with fail
      go_region
      refine ex_seen (Boxed w p r cap m R' h' L #[.bool false, .bool false, .int .u32 0]) b'.drew ?_
      intro W2 b2
      clear c0 c1 f0 f2 g2 b'
      have c0 : W2.cell? ⟨p, 0, none⟩ = some (.slice (some ⟨r, 0, none⟩) n cap) := by have := cell_of b2.s.obj 0; rw [hlen] at this; exact this
      have c1 : W2.cell? ⟨p, 1, none⟩ = some (.int .i64 (h' : Nat)) := cell_of b2.s.obj 1
      have f0 : W2.cell? ⟨r, h' * 3, none⟩ = some (.int .u32 x.key) := b2.s.row.cell hx 0 (by omega)
      have f2 : W2.cell? ⟨r, h' * 3 + 2, none⟩ = some (.bool x.mark) := b2.s.row.cell hx 2 (by omega)
      have g2 : W2.frozen? ⟨r, h' * 3 + 2, none⟩ = false := b2.s.row.frozen _

      go_wp2_with fail
      go_region
      refine ex_seen (Boxed w p r cap m R' h' L #[.bool false, .bool false, .int .u32 0]) b2.drew ?_
      intro W3 b3
      clear c0 c1 f0 f2 g2 b2
      have c2 : W3.cell? ⟨p, 2, none⟩ = some (.map (some m)) := cell_of b3.s.obj 2
      obtain ⟨W4, hdl, hm4, k4⟩ := b3.s.mp.del x.key
      have hat : atR R' x.key = some h' := atR_of hM'.apart hx hxf rfl
      have s4 : IsSec W4 p r cap m R' h' (delL x.key L) := ⟨k4.at b3.s.obj (by simp [b3.s.pm]), b3.s.row.keep k4 (by simp [b3.s.rm]), hm4, b3.s.pr, b3.s.pm, b3.s.rm⟩
      have b4 := b3.keep hp hr hm k4 (by simp) s4
      have hMd := hM'.del hat
      have hl0 : lookL k (delL x.key L) 0 = none := (hMd.look k).2 (atR_no hS.no)
      have hMp := hMd.put (k := k) (i := h') (x := Pl.no) (atR_no hS.no) (by rw [List.getElem?_set_self hlt]) rfl false
      rw [List.set_set] at hMp
      have hsw : sweep R.length R h = (R', h') := by rw [hS.eq]; exact sweep_stop hx hmk
      go_upto_region 15 with fail
      refine wp_seen (Boxed w p r cap m R' h' (delL x.key L) #[.bool false, .bool false, .int .u32 0]) b4 ?_
      intro W5 b5
      clear c2 hdl hm4 k4 s4 b4 b3
      have c1 : W5.cell? ⟨p, 1, none⟩ = some (.int .i64 (h' : Nat)) := cell_of b5.s.obj 1
      go_upto_region 17 with (first | (go_at_call 24; refine (put_is k b5.s hlt (by omega) hl0).mono ?_; rintro e W6 ⟨rfl, k6, s6⟩; have b6 := b5.keep hp hr hm k6 (by simp) s6; clear c1) | (go_at_call 27; refine (next_is b6.s (by simpa using hlen) (by omega) hl).mono ?_; rintro e W7 ⟨rfl, k7, s7⟩; have b7 := b6.keep hp hr hm k7 (by simp) s7))
      refine wp_seen (Boxed w p r cap m (R'.set h' ⟨k, true, false⟩) ((h' + 1) % n) (delL x.key L ++ [(k, (h' : Int))]) #[.bool false, .bool false, .int .u32 0]) b7 ?_
      clear b7
      intro W2 b2
      have n0 : W2.cell? ⟨w.heap.size, 0, none⟩ = some (.bool false) := cell_of b2.b 0
      have n1 : W2.cell? ⟨w.heap.size, 1, none⟩ = some (.bool false) := cell_of b2.b 1
      have n2 : W2.cell? ⟨w.heap.size, 2, none⟩ = some (.int .u32 0) := cell_of b2.b 2
      have m0 : W2.frozen? ⟨w.heap.size, 0, none⟩ = false := frozen_of b2.b 0
      have m1 : W2.frozen? ⟨w.heap.size, 1, none⟩ = false := frozen_of b2.b 1
      have m2 : W2.frozen? ⟨w.heap.size, 2, none⟩ = false := frozen_of b2.b 2
      go_wp2_with fail
      refine post_seen (Boxed w p r cap m (R'.set h' ⟨k, true, false⟩) ((h' + 1) % n) (delL x.key L ++ [(k, (h' : Int))]) #[.bool false, .bool true, .int .u32 x.key]) (b2.result hp hr hm _ _ _) ?_
      intro W9 b9
      clear n0 n1 n2 m0 m1 m2
      have n0 : W9.cell? ⟨w.heap.size, 0, none⟩ = some (.bool false) := cell_of b9.b 0
      have n1 : W9.cell? ⟨w.heap.size, 1, none⟩ = some (.bool true) := cell_of b9.b 1
      have n2 : W9.cell? ⟨w.heap.size, 2, none⟩ = some (.int .u32 x.key) := cell_of b9.b 2
      have hx2 : R'.getD h' Pl.no = x := by rw [List.getD_eq_getElem?_getD, hx]; rfl
      exact bodyPost_ret (v := .tuple #[.agg #[.bool false, .bool true, .int .u32 x.key], .int .i64 0]) (by simp [results, Try.results11, go_sem, n0, n1, n2]) rfl (by rw [hsw]; exact ⟨by show _ = Ending.returned (.tuple #[.agg #[.bool false, .bool true, .int .u32 (R'.getD h' Pl.no).key], .int .i64 0]); rw [hx2], b9.k, _, by show IsSec W9 p r cap m (R'.set h' _) ((h' + 1) % R.length) _; rw [hn]; exact b9.s, hMp⟩)

theorem use_is {p r cap m : Nat} {R : List Pl} {h : Nat} {L : List (Int × Int)} {w : World} (k : Int) (s : IsSec w p r cap m R h L) (hM : MapOk R L) (hl : R.length ≤ 1024) (hh : h < R.length) :
    Calls Try.prog 11 #[.pointer (some ⟨p, 0, none⟩), .int .u32 k] w fun e w' => Used w p r cap m (useR R h k) e w' := by
  cases hk : atR R k with
  | some i => exact use_hit k s hM hl hk
  | none =>
    cases hf : freeR R with
    | some i => exact use_free k s hM hl hk hf
    | none => exact use_sweep k s hM rfl hl hh hk hf
end Go.Proofs.Ytbjhpefnonnkmaa
