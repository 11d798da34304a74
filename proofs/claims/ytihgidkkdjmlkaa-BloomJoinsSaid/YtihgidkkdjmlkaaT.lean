/-
  The walk of BloomJoins.
-/
import Derived.Test.YtihgidkkdjmlkaaS
namespace Go.Proofs.Ytihgidkkdjmlkaa
open Go.ChangeShapes Go.WideShapes Go.ChangeAt Go.RowKit
set_option linter.unusedVariables false

theorem t_rnewAny {w W : World} {bs : List Bx} {fs : List Fl} (n h seed : Int) (z : St w bs fs W) (hs : Word seed) : Calls Try.prog 9 #[.int .i64 n, .int .i64 h, .int .u64 seed] W fun e w' => ∃ x y A m d er, e = .returned (.tuple #[.agg #[.int .i64 x, .int .u64 y, .slice A m d], .int .i64 er]) ∧ St w bs fs w' := by
  by_cases ho : okN n h
  · obtain ⟨K, hK, hb, rfl, rfl, rfl⟩ := ok_get ho hs
    exact (t_rnew z hK hb).mono fun e w' ⟨r, q1, q2, q3⟩ => ⟨_, _, _, _, _, _, q1, q2⟩
  · exact (t_rnewNo z (ok_not ho)).mono fun e w' ⟨q1, q2⟩ => ⟨_, _, _, _, _, _, q1, q2⟩
set_option maxRecDepth 100000 in
set_option maxHeartbeats 8000000 in
theorem joins_deep (K M : Bl) (hK : K.Ok) (hM : M.Ok) (hb : K.b = fun _ => false) (hb2 : M.b = fun _ => false) (one two : ByteArray) (h1 : one.size ≤ maxLen) (h2 : two.size ≤ maxLen) (l1 : K.n ≤ 1024) (l2 : M.n ≤ 1024) (l3 : one.size ≤ 300) (l4 : two.size ≤ 300) (w : World) :
    Calls Try.prog 5 #[.int .i64 (K.n : Nat), .int .i64 (K.h : Nat), .int .u64 K.seed, .int .i64 (M.n : Nat), .int .i64 (M.h : Nat), .int .u64 M.seed, .string one, .string two] w fun e w' => e = .returned (.bool true) ∧ Below w.heap.size w w' := by
  have Hb := Lib.hid hb
  have Hb2 := Lib.hid hb2
  have F1 := Lib.hid (show (!K.has one.data.toList) = true by rw [has_fresh hK hb]; rfl)
  have F2 := Lib.hid (show (!M.has two.data.toList) = true by rw [has_fresh hM hb2]; rfl)
  have l1' : ¬ (1024 : Int) < (K.n : Int) := by omega
  have l2' : ¬ (1024 : Int) < (M.n : Int) := by omega
  have l3' : ¬ (300 : Int) < (one.size : Int) := by omega
  have l4' : ¬ (300 : Int) < (two.size : Int) := by omega
  have hKa := hK.add one.data.toList
  have hMa := hM.add two.data.toList
  have hKj : ((K.add one.data.toList).join (M.add two.data.toList)).Ok := hKa.join
  have hlk : (K.add one.data.toList).like (M.add two.data.toList) = K.like M := rfl
  have Hlk := Lib.hid hlk
  have z := St.start w
  clear hb hb2 l1 l2 l3 l4 hlk
  go_enter Try.func5, Try.ntmps5
  go_wp2_with fail
  refine (t_rnew z hK Hb.out).mono ?_
  rintro e w1 ⟨r, rfl, z1, s1⟩
  clear z
  go_upto_region 2 with fail
  refine wp_seen (fun W => St w [⟨w1.heap.size, r, K.n, K⟩] [] W) (z1.newBox (a := ⟨w1.heap.size, r, K.n, K⟩) s1 rfl) ?_
  clear z1 s1
  generalize w1.heap.size = R
  rintro W z
  go_wp2_with fail
  refine (t_rnew z hM Hb2.out).mono ?_
  rintro e w2 ⟨r2, rfl, z1, s1⟩
  clear z
  go_upto_region 3 with fail
  refine wp_seen (fun W => St w [⟨w2.heap.size, r2, M.n, M⟩, ⟨R, r, K.n, K⟩] [] W) (z1.newBox (a := ⟨w2.heap.size, r2, M.n, M⟩) s1 rfl) ?_
  clear z1 s1
  generalize w2.heap.size = R2
  rintro W z
  go_wp2_with fail
  refine (t_new z hK Hb.out).mono ?_
  rintro e w3 ⟨p, g, rfl, z3⟩
  clear z
  go_wp2_with fail
  refine (t_new z3 hM Hb2.out).mono ?_
  rintro e w4 ⟨p2, g2, rfl, z4⟩
  clear z3
  go_wp2_with fail
  refine (t_adds (i := 1) z4 rfl hK one h1 true F1.out).mono ?_
  rintro e w5 ⟨rfl, z5⟩
  have z5 : St w [⟨R2, r2, M.n, M⟩, ⟨R, r, K.n, K⟩] [⟨p2, g2, M.n / 64, M⟩, ⟨p, g, K.n / 64, K.add one.data.toList⟩] w5 := z5
  clear z4
  go_wp2_with fail
  refine (t_adds (i := 0) z5 rfl hM two h2 true F2.out).mono ?_
  rintro e w6 ⟨rfl, z6⟩
  have z6 : St w [⟨R2, r2, M.n, M⟩, ⟨R, r, K.n, K⟩] [⟨p2, g2, M.n / 64, M.add two.data.toList⟩, ⟨p, g, K.n / 64, K.add one.data.toList⟩] w6 := z6
  clear z5
  obtain ⟨m0, m1, m2⟩ := z6.cells (i := 1) rfl
  go_wp2_with fail
  refine (t_radd (i := 1) z6 rfl hK one h1).mono ?_
  rintro e w7 ⟨r', c', rfl, z7, s7⟩
  clear z6 m0 m1 m2
  obtain ⟨m0, m1, m2⟩ := z7.cells (i := 1) rfl
  have f0 := z7.frozen (i := 1) rfl 0
  have f1 := z7.frozen (i := 1) rfl 1
  have f2 := z7.frozen (i := 1) rfl 2
  dsimp only at m0 m1 m2 f0 f1 f2
  go_upto_region 10 with fail
  refine wp_seen (fun W => St w [⟨R2, r2, M.n, M⟩, ⟨R, r', c', K.add one.data.toList⟩] [⟨p2, g2, M.n / 64, M.add two.data.toList⟩, ⟨p, g, K.n / 64, K.add one.data.toList⟩] W) (z7.store (i := 1) (M := K.add one.data.toList) rfl rfl s7) ?_
  clear z7 s7 m0 m1 m2 f0 f1 f2
  rintro W z
  obtain ⟨m0, m1, m2⟩ := z.cells (i := 0) rfl
  dsimp only at m0 m1 m2
  go_wp2_with fail
  refine (t_radd (i := 0) z rfl hM two h2).mono ?_
  rintro e w7 ⟨r2', c2', rfl, z7, s7⟩
  clear z m0 m1 m2
  obtain ⟨m0, m1, m2⟩ := z7.cells (i := 0) rfl
  have f0 := z7.frozen (i := 0) rfl 0
  have f1 := z7.frozen (i := 0) rfl 1
  have f2 := z7.frozen (i := 0) rfl 2
  dsimp only at m0 m1 m2 f0 f1 f2
  go_upto_region 11 with fail
  refine wp_seen (fun W => St w [⟨R2, r2', c2', M.add two.data.toList⟩, ⟨R, r', c', K.add one.data.toList⟩] [⟨p2, g2, M.n / 64, M.add two.data.toList⟩, ⟨p, g, K.n / 64, K.add one.data.toList⟩] W) (z7.store (i := 0) (M := M.add two.data.toList) rfl rfl s7) ?_
  clear z7 s7 m0 m1 m2 f0 f1 f2
  rintro W z
  have mm : W.cell? ⟨R2, 0, none⟩ = some (.int .i64 (M.h : Nat)) ∧ W.cell? ⟨R2, 1, none⟩ = some (.int .u64 M.seed) ∧ W.cell? ⟨R2, 2, none⟩ = some (.slice (some ⟨r2', 0, none⟩) M.n c2') := z.cells (i := 0) rfl
  have kk : W.cell? ⟨R, 0, none⟩ = some (.int .i64 (K.h : Nat)) ∧ W.cell? ⟨R, 1, none⟩ = some (.int .u64 K.seed) ∧ W.cell? ⟨R, 2, none⟩ = some (.slice (some ⟨r', 0, none⟩) K.n c') := z.cells (i := 1) rfl
  obtain ⟨m0, m1, m2⟩ := mm
  obtain ⟨k0, k1, k2⟩ := kk
  go_wp2_with fail
  by_cases hl : K.like M = true
  · have HL := Lib.hid hl
    clear hl
    refine (t_rjoin (i := 1) (j := 0) (K := K.add one.data.toList) (M := M.add two.data.toList) z rfl rfl hKa hMa (Hlk.out.trans HL.out)).mono ?_
    rintro e w8 ⟨r3, c3, rfl, z8, s8⟩
    clear z m0 m1 m2 k0 k1 k2
    go_upto_region 12 with fail
    refine wp_seen (fun W => St w [⟨w8.heap.size, r3, c3, (K.add one.data.toList).join (M.add two.data.toList)⟩, ⟨R2, r2', c2', M.add two.data.toList⟩, ⟨R, r', c', K.add one.data.toList⟩] [⟨p2, g2, M.n / 64, M.add two.data.toList⟩, ⟨p, g, K.n / 64, K.add one.data.toList⟩] W) (z8.newBox (a := ⟨w8.heap.size, r3, c3, (K.add one.data.toList).join (M.add two.data.toList)⟩) s8 rfl) ?_
    clear z8 s8
    generalize w8.heap.size = R3
    rintro W z
    go_wp2_with fail
    refine (t_join (i := 1) (j := 0) z rfl rfl (by decide) hKa hMa (Hlk.out.trans HL.out)).mono ?_
    rintro e w9 ⟨rfl, z9⟩
    have z9 : St w [⟨R3, r3, c3, (K.add one.data.toList).join (M.add two.data.toList)⟩, ⟨R2, r2', c2', M.add two.data.toList⟩, ⟨R, r', c', K.add one.data.toList⟩] [⟨p2, g2, M.n / 64, M.add two.data.toList⟩, ⟨p, g, K.n / 64, (K.add one.data.toList).join (M.add two.data.toList)⟩] w9 := z9
    clear z
    have mm : w9.cell? ⟨R3, 0, none⟩ = some (.int .i64 (K.h : Nat)) ∧ w9.cell? ⟨R3, 1, none⟩ = some (.int .u64 K.seed) ∧ w9.cell? ⟨R3, 2, none⟩ = some (.slice (some ⟨r3, 0, none⟩) K.n c3) := z9.cells (i := 0) rfl
    obtain ⟨m0, m1, m2⟩ := mm
    go_wp2_with fail
    refine (t_equal (i := 1) (j := 0) z9 rfl rfl hKj two h2).mono ?_
    rintro e x1 ⟨rfl, y1⟩
    clear z9 m0 m1 m2
    have mm : x1.cell? ⟨R2, 0, none⟩ = some (.int .i64 (M.h : Nat)) ∧ x1.cell? ⟨R2, 1, none⟩ = some (.int .u64 M.seed) ∧ x1.cell? ⟨R2, 2, none⟩ = some (.slice (some ⟨r2', 0, none⟩) M.n c2') := y1.cells (i := 1) rfl
    obtain ⟨m0, m1, m2⟩ := mm
    go_wp2_with fail
    refine (t_equal (i := 0) (j := 1) y1 rfl rfl hMa one h1).mono ?_
    rintro e x2 ⟨rfl, y2⟩
    clear y1 m0 m1 m2
    go_wp2_with fail
    refine (t_known y2).mono ?_
    rintro e x3 ⟨rfl, y3⟩
    go_wp2_with fail
    go_ret
    exact ⟨rfl, y3.bel⟩
  · have HL := Lib.hid (show ¬ (K.add one.data.toList).like (M.add two.data.toList) = true from fun q => hl (Hlk.out.symm.trans q))
    clear hl
    refine (t_rjoinNo (i := 1) (j := 0) (K := K.add one.data.toList) (M := M.add two.data.toList) z rfl rfl hKa hMa HL.out).mono ?_
    rintro e w8 ⟨rfl, z8, s8⟩
    clear z m0 m1 m2 k0 k1 k2
    go_upto_region 12 with fail
    refine wp_seen (fun W => St w [⟨w8.heap.size, r', c', K.add one.data.toList⟩, ⟨R2, r2', c2', M.add two.data.toList⟩, ⟨R, r', c', K.add one.data.toList⟩] [⟨p2, g2, M.n / 64, M.add two.data.toList⟩, ⟨p, g, K.n / 64, K.add one.data.toList⟩] W) (z8.newBox (a := ⟨w8.heap.size, r', c', K.add one.data.toList⟩) s8 rfl) ?_
    clear z8 s8
    generalize w8.heap.size = R3
    rintro W z
    go_wp2_with fail
    refine (t_joinNo (i := 1) (j := 0) z rfl rfl hKa hMa HL.out).mono ?_
    rintro e w9 ⟨rfl, z9⟩
    clear z
    have mm : w9.cell? ⟨R3, 0, none⟩ = some (.int .i64 (K.h : Nat)) ∧ w9.cell? ⟨R3, 1, none⟩ = some (.int .u64 K.seed) ∧ w9.cell? ⟨R3, 2, none⟩ = some (.slice (some ⟨r', 0, none⟩) K.n c') := z9.cells (i := 0) rfl
    obtain ⟨m0, m1, m2⟩ := mm
    go_wp2_with fail
    refine (t_equal (i := 1) (j := 0) z9 rfl rfl hKa two h2).mono ?_
    rintro e x1 ⟨rfl, y1⟩
    clear z9 m0 m1 m2
    have mm : x1.cell? ⟨R2, 0, none⟩ = some (.int .i64 (M.h : Nat)) ∧ x1.cell? ⟨R2, 1, none⟩ = some (.int .u64 M.seed) ∧ x1.cell? ⟨R2, 2, none⟩ = some (.slice (some ⟨r2', 0, none⟩) M.n c2') := y1.cells (i := 1) rfl
    obtain ⟨m0, m1, m2⟩ := mm
    go_wp2_with fail
    refine (t_equal (i := 0) (j := 1) y1 rfl rfl hMa one h1).mono ?_
    rintro e x2 ⟨rfl, y2⟩
    clear y1 m0 m1 m2
    go_wp2_with fail
    refine (t_known y2).mono ?_
    rintro e x3 ⟨rfl, y3⟩
    go_wp2_with fail
    go_ret
    exact ⟨rfl, y3.bel⟩
set_option maxRecDepth 100000 in
set_option maxHeartbeats 8000000 in
theorem bloomJoins_walk (n h seed n2 h2 seed2 : Int) (one two : ByteArray) (w1 : (Lit.int .i64 n).wf = true) (w2 : (Lit.int .i64 h).wf = true) (w3 : (Lit.int .u64 seed).wf = true) (w4 : (Lit.int .i64 n2).wf = true) (w5 : (Lit.int .i64 h2).wf = true) (w6 : (Lit.int .u64 seed2).wf = true) (hs1 : one.size ≤ maxLen) (hs2 : two.size ≤ maxLen) (w : World) :
    Calls Try.prog 5 #[.int .i64 n, .int .i64 h, .int .u64 seed, .int .i64 n2, .int .i64 h2, .int .u64 seed2, .string one, .string two] w fun e w' => e = .returned (.bool true) ∧ Below w.heap.size w w' := by
  have hsd := word_of w3
  have hsd2 := word_of w6
  clear w1 w2 w3 w4 w5 w6
  by_cases ho : okN n h
  · obtain ⟨K, hK, hb, rfl, rfl, rfl⟩ := ok_get ho hsd
    by_cases ho2 : okN n2 h2
    · obtain ⟨M, hM, hb2, rfl, rfl, rfl⟩ := ok_get ho2 hsd2
      by_cases hall : K.n ≤ 1024 ∧ M.n ≤ 1024 ∧ one.size ≤ 300 ∧ two.size ≤ 300
      · obtain ⟨l1, l2, l3, l4⟩ := hall
        exact joins_deep K M hK hM hb hb2 one two hs1 hs2 l1 l2 l3 l4 w
      · have Hb := Lib.hid hb
        have Hb2 := Lib.hid hb2
        have z := St.start w
        clear ho ho2 hb hb2 hsd hsd2
        go_enter Try.func5, Try.ntmps5
        go_wp2_with fail
        refine (t_rnew z hK Hb.out).mono ?_
        rintro e w1 ⟨r, rfl, z1, s1⟩
        clear z s1
        go_upto_region 2 with fail
        refine wp_seen _ (z1.alloc _) ?_
        clear z1
        rintro W z
        go_wp2_with fail
        refine (t_rnew z hM Hb2.out).mono ?_
        rintro e w2 ⟨r2, rfl, z1, s1⟩
        clear z s1
        go_upto_region 3 with fail
        refine wp_seen _ (z1.alloc _) ?_
        clear z1
        rintro W z
        by_cases a1 : K.n ≤ 1024
        · have b1 : ¬ (1024 : Int) < (K.n : Int) := by omega
          by_cases a2 : M.n ≤ 1024
          · have b2 : ¬ (1024 : Int) < (M.n : Int) := by omega
            by_cases a3 : one.size ≤ 300
            · have b3 : ¬ (300 : Int) < (one.size : Int) := by omega
              have b4 : (300 : Int) < (two.size : Int) := by omega
              go_wp2_with (first | (go_at_call 10; refine (t_known z).mono ?_; rintro e w4 ⟨rfl, z4⟩))
              go_ret
              exact ⟨rfl, z4.bel⟩
            · have b3 : (300 : Int) < (one.size : Int) := by omega
              go_wp2_with (first | (go_at_call 10; refine (t_known z).mono ?_; rintro e w4 ⟨rfl, z4⟩))
              go_ret
              exact ⟨rfl, z4.bel⟩
          · have b2 : (1024 : Int) < (M.n : Int) := by omega
            go_wp2_with (first | (go_at_call 10; refine (t_known z).mono ?_; rintro e w4 ⟨rfl, z4⟩))
            go_ret
            exact ⟨rfl, z4.bel⟩
        · have b1 : (1024 : Int) < (K.n : Int) := by omega
          go_wp2_with (first | (go_at_call 10; refine (t_known z).mono ?_; rintro e w4 ⟨rfl, z4⟩))
          go_ret
          exact ⟨rfl, z4.bel⟩
    · have hn := Lib.hid (ok_not ho2)
      have Hb := Lib.hid hb
      have z := St.start w
      clear ho ho2 hb hsd
      go_enter Try.func5, Try.ntmps5
      go_wp2_with fail
      refine (t_rnew z hK Hb.out).mono ?_
      rintro e w1 ⟨r, rfl, z1, s1⟩
      clear z s1
      go_upto_region 2 with fail
      refine wp_seen _ (z1.alloc _) ?_
      clear z1
      rintro W z
      go_wp2_with fail
      refine (t_rnewNo z hn.out).mono ?_
      rintro e w2 ⟨rfl, z1⟩
      clear z
      go_upto_region 3 with fail
      refine wp_seen _ (z1.alloc _) ?_
      clear z1
      rintro W z
      go_wp2_with (first | (go_at_call 10; refine (t_known z).mono ?_; rintro e w4 ⟨rfl, z4⟩))
      go_ret
      exact ⟨rfl, z4.bel⟩
  · have hn := Lib.hid (ok_not ho)
    have z := St.start w
    clear ho hsd
    go_enter Try.func5, Try.ntmps5
    go_wp2_with fail
    refine (t_rnewNo z hn.out).mono ?_
    rintro e w1 ⟨rfl, z1⟩
    clear z
    go_upto_region 2 with fail
    refine wp_seen _ (z1.alloc _) ?_
    clear z1
    rintro W z
    go_wp2_with fail
    refine (t_rnewAny n2 h2 seed2 z hsd2).mono ?_
    rintro e w2 ⟨x, y, A, m, d, er, rfl, z1⟩
    clear z
    go_upto_region 3 with fail
    refine wp_seen _ (z1.alloc _) ?_
    clear z1
    rintro W z
    go_wp2_with (first | (go_at_call 10; refine (t_known z).mono ?_; rintro e w4 ⟨rfl, z4⟩))
    go_ret
    exact ⟨rfl, z4.bel⟩
end Go.Proofs.Ytihgidkkdjmlkaa
