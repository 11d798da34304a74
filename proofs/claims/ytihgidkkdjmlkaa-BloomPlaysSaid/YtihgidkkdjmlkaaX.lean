/-
  The walk of BloomPlays.
-/
import Derived.Test.YtihgidkkdjmlkaaU
namespace Go.Proofs.Ytihgidkkdjmlkaa
open Go.ChangeShapes Go.WideShapes Go.ChangeAt Go.RowKit
set_option linter.unusedVariables false

theorem Nums.put {w : World} {k : IntKind} {t : TypeId} {g n cap : Nat} {f : Nat → Int} (h : Nums w k t g n cap f) (i : Nat) (x : Int) : Nums (w.setCell ⟨g, i, none⟩ (.int k x)) k t g n cap (fun l => if l = i then x else f l) :=
  h.set i x (if_pos rfl) (fun j hj => if_neg hj)
theorem Bl.none_is {K K0 : Bl} (hb : K0.b = fun _ => false) (h : K.n = K0.n ∧ K.h = K0.h ∧ K.seed = K0.seed) : K.none = K0 := by
  obtain ⟨h1, h2, h3⟩ := h
  cases K0
  simp at hb h1 h2 h3
  subst hb h1 h2 h3
  rfl
set_option maxRecDepth 100000 in
set_option maxHeartbeats 16000000 in
theorem bloomPlays_walk (n h seed : Int) (sl : Option Addr) (len cap : Nat) (f : Nat → Int) (gk : Nat → ByteArray) (w1 : (Lit.int .i64 n).wf = true) (w2 : (Lit.int .i64 h).wf = true) (w3 : (Lit.int .u64 seed).wf = true) (w : World) (hl : len ≤ maxLen) (hacts : IsActs w sl len f gk) :
    Calls Try.prog 7 #[.int .i64 n, .int .i64 h, .int .u64 seed, .slice sl len cap] w fun e w' => e = .returned (.bool true) ∧ Below w.heap.size w w' := by
  have hsd := word_of w3
  clear w1 w2 w3
  have hlen : len ≤ 9223372036854775807 := by unfold maxLen at hl; omega
  by_cases ho : okN n h
  · obtain ⟨K0, hK0, hb, rfl, rfl, rfl⟩ := ok_get ho hsd
    have Hb := Lib.hid hb
    have z := St.start w
    clear ho hb hsd
    by_cases hbig : K0.n ≤ 1024
    · have hbig' : ¬ (1024 : Int) < (K0.n : Int) := by omega
      go_enter Try.func7, Try.ntmps7
      go_wp2_with fail
      refine (t_rnew z hK0 Hb.out).mono ?_
      rintro e w1 ⟨r0, rfl, z1, s1⟩
      clear z
      go_upto_region 2 with fail
      refine wp_seen (fun W => St w [⟨w1.heap.size, r0, K0.n, K0⟩] [] W) (z1.newBox (a := ⟨w1.heap.size, r0, K0.n, K0⟩) s1 rfl) ?_
      clear z1 s1
      generalize w1.heap.size = R
      rintro W z
      have F21 := few_is (cap := cap) 60 (by omega) (hacts.below z.bel) hl
      go_wp2_with fail
      refine F21.mono ?_
      rintro e w2 ⟨bb, rfl, hbb, rfl⟩
      clear F21
      cases bb
      · go_wp2_with (first | (go_at_call 10; refine (t_known z).mono ?_; rintro e w4 ⟨rfl, z4⟩))
        go_ret
        exact ⟨rfl, z4.bel⟩
      · obtain ⟨h60, h300⟩ := hbb rfl
        have H300 := Lib.hid h300
        clear hbb h300 hl hlen
        have mm : W.cell? ⟨R, 0, none⟩ = some (.int .i64 (K0.h : Nat)) ∧ W.cell? ⟨R, 1, none⟩ = some (.int .u64 K0.seed) ∧ W.cell? ⟨R, 2, none⟩ = some (.slice (some ⟨r0, 0, none⟩) K0.n K0.n) := z.cells (i := 0) rfl
        obtain ⟨m0, m1, m2⟩ := mm
        go_upto_region 5 with fail
        refine wp_seen (fun V => St w [⟨W.heap.size, r0, K0.n, K0⟩, ⟨R, r0, K0.n, K0⟩] [] V) (z.newBox (a := ⟨W.heap.size, r0, K0.n, K0⟩) (z.bget (i := 0) (b := ⟨R, r0, K0.n, K0⟩) rfl) rfl) ?_
        clear z m0 m1 m2
        generalize W.heap.size = E
        rintro W z
        go_wp2_with (first | (go_at_call 11; refine (t_new z hK0 Hb.out).mono ?_; rintro e w3 ⟨p, g, rfl, z3⟩))
        clear z
        go_loopw [12, 14] (fun v x wr => ∃ k p g q r c K, k ≤ len ∧ v = .pointer (some ⟨p, 0, none⟩) ∧ x = .int .i64 (k : Nat) ∧ Bl.Ok K ∧ (K.n = K0.n ∧ K.h = K0.h ∧ K.seed = K0.seed) ∧ St w [⟨E, r0, K0.n, K0⟩, ⟨R, r, c, K⟩] [⟨p, g, q, K⟩] wr) (fun _ x _ => len + 1 - (intOf x).toNat)
        case atStart => exact ⟨0, p, g, _, r0, K0.n, K0, by omega, rfl, rfl, hK0, ⟨rfl, rfl, rfl⟩, z3⟩
        case round =>
          obtain ⟨k, p, g, q, r, c, K, hk, rfl, rfl, hK, hE1, z⟩ := hrel
          clear z3
          have hE := Lib.hid hE1
          clear hE1
          by_cases hkl : k < len
          · obtain ⟨B, off, rfl, ca, cb⟩ := acts_at hacts z.bel hkl
            have hkey : (gk k).size ≤ maxLen := by have := H300.out k hkl; unfold maxLen; omega
            have h300 : (gk k).size ≤ 300 := H300.out k hkl
            generalize gk k = key at *
            generalize f k = x0 at *
            go_upto_region 12 with fail
            refine wp_seen (fun W => Sx w [⟨E, r0, K0.n, K0⟩, ⟨R, r, c, K⟩] [⟨p, g, q, K⟩] wr.heap.size x0 key W) (Sx.start z x0 key) ?_
            clear z ca cb
            generalize wr.heap.size = A
            rintro W z
            have a0 := z.act0
            have a1 := z.act1
            by_cases q0 : x0 = 0
            · subst q0
              have hK' := hK.add key.data.toList
              have hE' := Lib.hid (show (K.add key.data.toList).n = K0.n ∧ (K.add key.data.toList).h = K0.h ∧ (K.add key.data.toList).seed = K0.seed from hE.out)
              go_wp2_with fail
              refine (x_add (i := 0) z rfl hK key hkey).mono ?_
              rintro e w2 ⟨rfl, z2⟩
              go_upto_region 21 with fail
              have z2 : Sx w [⟨E, r0, K0.n, K0⟩, ⟨R, r, c, K⟩] [⟨p, g, q, K.add key.data.toList⟩] A 0 key w2 := z2
              clear z a0 a1
              have a1 := z2.act1
              have mm : w2.cell? ⟨R, 0, none⟩ = some (.int .i64 (K.h : Nat)) ∧ w2.cell? ⟨R, 1, none⟩ = some (.int .u64 K.seed) ∧ w2.cell? ⟨R, 2, none⟩ = some (.slice (some ⟨r, 0, none⟩) K.n c) := z2.st.cells (i := 1) rfl
              obtain ⟨mm0, mm1, mm2⟩ := mm
              go_wp2_with fail
              refine (x_radd (i := 1) z2 rfl hK key hkey).mono ?_
              rintro e w3 ⟨r', c', rfl, z3, s3⟩
              go_upto_region 22 with fail
              clear mm0 mm1 mm2 a1 z2
              have hb : (!K.has key.data.toList) = (!K.has key.data.toList) := rfl
              generalize (!K.has key.data.toList) = hh at *
              clear hb
              refine wp_seen (fun W => Sx w [⟨w3.heap.size, r', c', K.add key.data.toList⟩, ⟨E, r0, K0.n, K0⟩, ⟨R, r, c, K⟩] [⟨p, g, q, K.add key.data.toList⟩] A 0 key W) (z3.newBox (a := ⟨w3.heap.size, r', c', K.add key.data.toList⟩) s3 rfl) ?_
              clear z3 s3
              generalize w3.heap.size = X
              rintro V z
              have mm : V.cell? ⟨R, 0, none⟩ = some (.int .i64 (K.h : Nat)) ∧ V.cell? ⟨R, 1, none⟩ = some (.int .u64 K.seed) ∧ V.cell? ⟨R, 2, none⟩ = some (.slice (some ⟨r, 0, none⟩) K.n c) := z.st.cells (i := 2) rfl
              obtain ⟨mm0, mm1, mm2⟩ := mm
              have kk : V.cell? ⟨X, 0, none⟩ = some (.int .i64 (K.h : Nat)) ∧ V.cell? ⟨X, 1, none⟩ = some (.int .u64 K.seed) ∧ V.cell? ⟨X, 2, none⟩ = some (.slice (some ⟨r', 0, none⟩) K.n c') := z.st.cells (i := 0) rfl
              obtain ⟨kk0, kk1, kk2⟩ := kk
              have ff0 : V.frozen? ⟨R, 0, none⟩ = false := z.st.frozen (i := 2) rfl 0
              have ff1 : V.frozen? ⟨R, 1, none⟩ = false := z.st.frozen (i := 2) rfl 1
              have ff2 : V.frozen? ⟨R, 2, none⟩ = false := z.st.frozen (i := 2) rfl 2
              go_upto_region 23 with fail
              refine wp_seen (fun W => Sx w [⟨E, r0, K0.n, K0⟩, ⟨R, r', c', K.add key.data.toList⟩] [⟨p, g, q, K.add key.data.toList⟩] A 0 key W) ((z.store (i := 2) (M := K.add key.data.toList) rfl rfl (z.st.bget (i := 0) (b := ⟨X, r', c', K.add key.data.toList⟩) rfl)).less (by simp) (List.Sublist.refl _)) ?_
              clear z mm0 mm1 mm2 kk0 kk1 kk2 ff0 ff1 ff2
              rintro V2 z4
              generalize K.add key.data.toList = K' at *
              go_wp2_with fail
              refine (x_words (i := 0) z4 rfl hK').mono ?_
              rintro e wv ⟨d, rfl, nv, bv, hd⟩
              have hm : K'.n / 64 ≤ 16384 := by have := hK'.n64; omega
              generalize K'.n / 64 = m at nv hm ⊢
              go_wp2_with fail
              go_loopw [28] (fun y wi => ∃ j F, j ≤ m ∧ y = .int .i64 (j : Nat) ∧ Nums wi .u64 22 d m m F ∧ Below V2.heap.size V2 wi) (fun y _ => m - (intOf y).toNat)
              case atStart => exact ⟨0, _, Nat.zero_le _, rfl, nv, bv⟩
              case round =>
                obtain ⟨j, F, hj, rfl, ni, bi⟩ := hrel
                clear nv bv
                by_cases hjm : j < m
                · have cj := ni.cell hjm
                  have fj := ni.frozen j
                  have nn := fun X => ni.put j X
                  have bb := fun X => below_put bi (i := j) hd (.int .u64 X)
                  have NN := Lib.hid nn
                  have BB := Lib.hid bb
                  clear nn bb
                  generalize F j = fv at *
                  go_wp2_with fail
                  go_roundw
                  case rel => exact ⟨j + 1, _, by omega, by go_num, NN.out _, BB.out _⟩
                  all_goals (simp [intOf]; omega)
                · obtain rfl : m = j := by omega
                  have z9 := z4.step bi
                  clear ni bi z4
                  have a1 := z9.act1
                  have mm : wr.cell? ⟨R, 0, none⟩ = some (.int .i64 (K'.h : Nat)) ∧ wr.cell? ⟨R, 1, none⟩ = some (.int .u64 K'.seed) ∧ wr.cell? ⟨R, 2, none⟩ = some (.slice (some ⟨r', 0, none⟩) K'.n c') := z9.st.cells (i := 1) rfl
                  obtain ⟨mm0, mm1, mm2⟩ := mm
                  go_wp2_with fail
                  refine (x_equal (i := 0) (j := 1) z9 rfl rfl hK' key hkey).mono ?_
                  rintro e wz ⟨rfl, z10⟩
                  go_wp2_with fail
                  go_roundw
                  case rel => exact ⟨k + 1, p, g, q, r', c', K', by omega, rfl, by go_num, hK', hE'.out, z10.st⟩
                  all_goals (simp [intOf]; omega)
            · by_cases q1 : x0 = 1
              · subst q1
                have hK' := hK0
                go_wp2_with fail
                refine (x_clear (i := 0) z rfl hK).mono ?_
                rintro e w2 ⟨rfl, z2⟩
                go_upto_region 28 with fail
                have z2 : Sx w [⟨E, r0, K0.n, K0⟩, ⟨R, r, c, K⟩] [⟨p, g, q, K0⟩] A 1 key w2 := by
                  have z3 : Sx w [⟨E, r0, K0.n, K0⟩, ⟨R, r, c, K⟩] [⟨p, g, q, K.none⟩] A 1 key w2 := z2
                  rw [Bl.none_is Hb.out hE.out] at z3
                  exact z3
                clear z a0 a1
                have mm : w2.cell? ⟨R, 0, none⟩ = some (.int .i64 (K.h : Nat)) ∧ w2.cell? ⟨R, 1, none⟩ = some (.int .u64 K.seed) ∧ w2.cell? ⟨R, 2, none⟩ = some (.slice (some ⟨r, 0, none⟩) K.n c) := z2.st.cells (i := 1) rfl
                obtain ⟨mm0, mm1, mm2⟩ := mm
                have kk : w2.cell? ⟨E, 0, none⟩ = some (.int .i64 (K0.h : Nat)) ∧ w2.cell? ⟨E, 1, none⟩ = some (.int .u64 K0.seed) ∧ w2.cell? ⟨E, 2, none⟩ = some (.slice (some ⟨r0, 0, none⟩) K0.n K0.n) := z2.st.cells (i := 0) rfl
                obtain ⟨kk0, kk1, kk2⟩ := kk
                have ff0 : w2.frozen? ⟨R, 0, none⟩ = false := z2.st.frozen (i := 1) rfl 0
                have ff1 : w2.frozen? ⟨R, 1, none⟩ = false := z2.st.frozen (i := 1) rfl 1
                have ff2 : w2.frozen? ⟨R, 2, none⟩ = false := z2.st.frozen (i := 1) rfl 2
                go_upto_region 38 with fail
                refine wp_seen (fun W => Sx w [⟨E, r0, K0.n, K0⟩, ⟨R, r0, K0.n, K0⟩] [⟨p, g, q, K0⟩] A 1 key W) (z2.store (i := 1) (M := K0) rfl hE.out.1.symm (z2.st.bget (i := 0) (b := ⟨E, r0, K0.n, K0⟩) rfl)) ?_
                clear z2 mm0 mm1 mm2 kk0 kk1 kk2 ff0 ff1 ff2
                rintro V2 z4
                go_wp2_with fail
                refine (x_words (i := 0) z4 rfl hK').mono ?_
                rintro e wv ⟨d, rfl, nv, bv, hd⟩
                have hm : K0.n / 64 ≤ 16384 := by have := hK'.n64; omega
                generalize K0.n / 64 = m at nv hm ⊢
                go_wp2_with fail
                go_loopw [28] (fun y wi => ∃ j F, j ≤ m ∧ y = .int .i64 (j : Nat) ∧ Nums wi .u64 22 d m m F ∧ Below V2.heap.size V2 wi) (fun y _ => m - (intOf y).toNat)
                case atStart => exact ⟨0, _, Nat.zero_le _, rfl, nv, bv⟩
                case round =>
                  obtain ⟨j, F, hj, rfl, ni, bi⟩ := hrel
                  clear nv bv
                  by_cases hjm : j < m
                  · have cj := ni.cell hjm
                    have fj := ni.frozen j
                    have nn := fun X => ni.put j X
                    have bb := fun X => below_put bi (i := j) hd (.int .u64 X)
                    have NN := Lib.hid nn
                    have BB := Lib.hid bb
                    clear nn bb
                    generalize F j = fv at *
                    go_wp2_with fail
                    go_roundw
                    case rel => exact ⟨j + 1, _, by omega, by go_num, NN.out _, BB.out _⟩
                    all_goals (simp [intOf]; omega)
                  · obtain rfl : m = j := by omega
                    have z9 := z4.step bi
                    clear ni bi z4
                    have a1 := z9.act1
                    have mm : wr.cell? ⟨R, 0, none⟩ = some (.int .i64 (K0.h : Nat)) ∧ wr.cell? ⟨R, 1, none⟩ = some (.int .u64 K0.seed) ∧ wr.cell? ⟨R, 2, none⟩ = some (.slice (some ⟨r0, 0, none⟩) K0.n K0.n) := z9.st.cells (i := 1) rfl
                    obtain ⟨mm0, mm1, mm2⟩ := mm
                    go_wp2_with fail
                    refine (x_equal (i := 0) (j := 1) z9 rfl rfl hK' key hkey).mono ?_
                    rintro e wz ⟨rfl, z10⟩
                    go_wp2_with fail
                    go_roundw
                    case rel => exact ⟨k + 1, p, g, q, r0, K0.n, K0, by omega, rfl, by go_num, hK', ⟨rfl, rfl, rfl⟩, z10.st⟩
                    all_goals (simp [intOf]; omega)
              · by_cases q2 : x0 = 2
                · subst q2
                  have hKa := hK0.add key.data.toList
                  have hK' : (K.join (K0.add key.data.toList)).Ok := hK.join
                  have hE' := Lib.hid (show (K.join (K0.add key.data.toList)).n = K0.n ∧ (K.join (K0.add key.data.toList)).h = K0.h ∧ (K.join (K0.add key.data.toList)).seed = K0.seed from hE.out)
                  have HL := Lib.hid (show K.like (K0.add key.data.toList) = true from decide_eq_true hE.out)
                  have F1 := Lib.hid (show (!K0.has key.data.toList) = true by rw [has_fresh hK0 Hb.out]; rfl)
                  go_wp2_with fail
                  refine (x_new z hK0 Hb.out).mono ?_
                  rintro e w2 ⟨p2, g2, rfl, z2⟩
                  go_upto_region 31 with fail
                  clear z a0 a1
                  have a1 := z2.act1
                  go_wp2_with fail
                  refine (x_adds (i := 0) z2 rfl hK0 key hkey true F1.out).mono ?_
                  rintro e w3 ⟨rfl, z3⟩
                  go_upto_region 33 with fail
                  have z3 : Sx w [⟨E, r0, K0.n, K0⟩, ⟨R, r, c, K⟩] [⟨p2, g2, K0.n / 64, K0.add key.data.toList⟩, ⟨p, g, q, K⟩] A 2 key w3 := z3
                  clear z2 a1
                  have a1 := z3.act1
                  have mm : w3.cell? ⟨E, 0, none⟩ = some (.int .i64 (K0.h : Nat)) ∧ w3.cell? ⟨E, 1, none⟩ = some (.int .u64 K0.seed) ∧ w3.cell? ⟨E, 2, none⟩ = some (.slice (some ⟨r0, 0, none⟩) K0.n K0.n) := z3.st.cells (i := 0) rfl
                  obtain ⟨mm0, mm1, mm2⟩ := mm
                  go_wp2_with fail
                  refine (x_radd (i := 0) z3 rfl hK0 key hkey).mono ?_
                  rintro e w4 ⟨r1, c1, rfl, z4, s4⟩
                  go_upto_region 34 with fail
                  clear mm0 mm1 mm2 a1 z3
                  refine wp_seen (fun W => Sx w [⟨w4.heap.size, r1, c1, K0.add key.data.toList⟩, ⟨E, r0, K0.n, K0⟩, ⟨R, r, c, K⟩] [⟨p2, g2, K0.n / 64, K0.add key.data.toList⟩, ⟨p, g, q, K⟩] A 2 key W) (z4.newBox (a := ⟨w4.heap.size, r1, c1, K0.add key.data.toList⟩) s4 rfl) ?_
                  clear z4 s4
                  generalize w4.heap.size = O
                  rintro V z
                  have mm : V.cell? ⟨R, 0, none⟩ = some (.int .i64 (K.h : Nat)) ∧ V.cell? ⟨R, 1, none⟩ = some (.int .u64 K.seed) ∧ V.cell? ⟨R, 2, none⟩ = some (.slice (some ⟨r, 0, none⟩) K.n c) := z.st.cells (i := 2) rfl
                  obtain ⟨mm0, mm1, mm2⟩ := mm
                  have kk : V.cell? ⟨O, 0, none⟩ = some (.int .i64 (K0.h : Nat)) ∧ V.cell? ⟨O, 1, none⟩ = some (.int .u64 K0.seed) ∧ V.cell? ⟨O, 2, none⟩ = some (.slice (some ⟨r1, 0, none⟩) K0.n c1) := z.st.cells (i := 0) rfl
                  obtain ⟨kk0, kk1, kk2⟩ := kk
                  go_wp2_with fail
                  refine (x_rjoin (i := 2) (j := 0) (M := K0.add key.data.toList) z rfl rfl hK hKa HL.out).mono ?_
                  rintro e w5 ⟨r2, c2, rfl, z5, s5⟩
                  go_upto_region 35 with fail
                  clear z mm0 mm1 mm2 kk0 kk1 kk2
                  refine wp_seen (fun W => Sx w [⟨w5.heap.size, r2, c2, K.join (K0.add key.data.toList)⟩, ⟨O, r1, c1, K0.add key.data.toList⟩, ⟨E, r0, K0.n, K0⟩, ⟨R, r, c, K⟩] [⟨p2, g2, K0.n / 64, K0.add key.data.toList⟩, ⟨p, g, q, K⟩] A 2 key W) (z5.newBox (a := ⟨w5.heap.size, r2, c2, K.join (K0.add key.data.toList)⟩) s5 rfl) ?_
                  clear z5 s5
                  generalize w5.heap.size = N
                  rintro V3 z
                  have mm : V3.cell? ⟨R, 0, none⟩ = some (.int .i64 (K.h : Nat)) ∧ V3.cell? ⟨R, 1, none⟩ = some (.int .u64 K.seed) ∧ V3.cell? ⟨R, 2, none⟩ = some (.slice (some ⟨r, 0, none⟩) K.n c) := z.st.cells (i := 3) rfl
                  obtain ⟨mm0, mm1, mm2⟩ := mm
                  have kk : V3.cell? ⟨N, 0, none⟩ = some (.int .i64 (K.h : Nat)) ∧ V3.cell? ⟨N, 1, none⟩ = some (.int .u64 K.seed) ∧ V3.cell? ⟨N, 2, none⟩ = some (.slice (some ⟨r2, 0, none⟩) K.n c2) := z.st.cells (i := 0) rfl
                  obtain ⟨kk0, kk1, kk2⟩ := kk
                  have ff0 : V3.frozen? ⟨R, 0, none⟩ = false := z.st.frozen (i := 3) rfl 0
                  have ff1 : V3.frozen? ⟨R, 1, none⟩ = false := z.st.frozen (i := 3) rfl 1
                  have ff2 : V3.frozen? ⟨R, 2, none⟩ = false := z.st.frozen (i := 3) rfl 2
                  go_upto_region 36 with fail
                  refine wp_seen (fun W => Sx w [⟨O, r1, c1, K0.add key.data.toList⟩, ⟨E, r0, K0.n, K0⟩, ⟨R, r2, c2, K.join (K0.add key.data.toList)⟩] [⟨p2, g2, K0.n / 64, K0.add key.data.toList⟩, ⟨p, g, q, K⟩] A 2 key W) ((z.store (i := 3) (M := K.join (K0.add key.data.toList)) rfl rfl (z.st.bget (i := 0) (b := ⟨N, r2, c2, K.join (K0.add key.data.toList)⟩) rfl)).less (by simp) (List.Sublist.refl _)) ?_
                  clear z mm0 mm1 mm2 kk0 kk1 kk2 ff0 ff1 ff2
                  rintro V4 z
                  go_wp2_with fail
                  refine (x_join (i := 1) (j := 0) z rfl rfl (by decide) hK hKa HL.out).mono ?_
                  rintro e w6 ⟨rfl, z6⟩
                  have z6 : Sx w [⟨O, r1, c1, K0.add key.data.toList⟩, ⟨E, r0, K0.n, K0⟩, ⟨R, r2, c2, K.join (K0.add key.data.toList)⟩] [⟨p2, g2, K0.n / 64, K0.add key.data.toList⟩, ⟨p, g, q, K.join (K0.add key.data.toList)⟩] A 2 key w6 := z6
                  clear z
                  have a1 := z6.act1
                  have mm : w6.cell? ⟨O, 0, none⟩ = some (.int .i64 (K0.h : Nat)) ∧ w6.cell? ⟨O, 1, none⟩ = some (.int .u64 K0.seed) ∧ w6.cell? ⟨O, 2, none⟩ = some (.slice (some ⟨r1, 0, none⟩) K0.n c1) := z6.st.cells (i := 0) rfl
                  obtain ⟨mm0, mm1, mm2⟩ := mm
                  go_wp2_with fail
                  refine (x_equal (i := 0) (j := 0) z6 rfl rfl hKa key hkey).mono ?_
                  rintro e V2 ⟨rfl, z7⟩
                  have z4 : Sx w [⟨E, r0, K0.n, K0⟩, ⟨R, r2, c2, K.join (K0.add key.data.toList)⟩] [⟨p, g, q, K.join (K0.add key.data.toList)⟩] A 2 key V2 := z7.less (by simp) (by simp)
                  clear z6 z7 mm0 mm1 mm2 a1
                  generalize K.join (K0.add key.data.toList) = K' at *
                  go_wp2_with fail
                  refine (x_words (i := 0) z4 rfl hK').mono ?_
                  rintro e wv ⟨d, rfl, nv, bv, hd⟩
                  have hm : K'.n / 64 ≤ 16384 := by have := hK'.n64; omega
                  generalize K'.n / 64 = m at nv hm ⊢
                  go_wp2_with fail
                  go_loopw [28] (fun y wi => ∃ j F, j ≤ m ∧ y = .int .i64 (j : Nat) ∧ Nums wi .u64 22 d m m F ∧ Below V2.heap.size V2 wi) (fun y _ => m - (intOf y).toNat)
                  case atStart => exact ⟨0, _, Nat.zero_le _, rfl, nv, bv⟩
                  case round =>
                    obtain ⟨j, F, hj, rfl, ni, bi⟩ := hrel
                    clear nv bv
                    by_cases hjm : j < m
                    · have cj := ni.cell hjm
                      have fj := ni.frozen j
                      have nn := fun X => ni.put j X
                      have bb := fun X => below_put bi (i := j) hd (.int .u64 X)
                      have NN := Lib.hid nn
                      have BB := Lib.hid bb
                      clear nn bb
                      generalize F j = fv at *
                      go_wp2_with fail
                      go_roundw
                      case rel => exact ⟨j + 1, _, by omega, by go_num, NN.out _, BB.out _⟩
                      all_goals (simp [intOf]; omega)
                    · obtain rfl : m = j := by omega
                      have z9 := z4.step bi
                      clear ni bi z4
                      have a1 := z9.act1
                      have mm : wr.cell? ⟨R, 0, none⟩ = some (.int .i64 (K'.h : Nat)) ∧ wr.cell? ⟨R, 1, none⟩ = some (.int .u64 K'.seed) ∧ wr.cell? ⟨R, 2, none⟩ = some (.slice (some ⟨r2, 0, none⟩) K'.n c2) := z9.st.cells (i := 1) rfl
                      obtain ⟨mm0, mm1, mm2⟩ := mm
                      go_wp2_with fail
                      refine (x_equal (i := 0) (j := 1) z9 rfl rfl hK' key hkey).mono ?_
                      rintro e wz ⟨rfl, z10⟩
                      go_wp2_with fail
                      go_roundw
                      case rel => exact ⟨k + 1, p, g, q, r2, c2, K', by omega, rfl, by go_num, hK', hE'.out, z10.st⟩
                      all_goals (simp [intOf]; omega)
                · have hK' := hK
                  have hE' := hE
                  go_wp2_with fail
                  refine (x_copy (i := 0) z rfl hK).mono ?_
                  rintro e w2 ⟨p2, g2, rfl, z2⟩
                  go_upto_region 15 with fail
                  clear z a0 a1
                  have a1 := z2.act1
                  go_wp2_with fail
                  refine (x_add (i := 1) z2 rfl hK _ ?_).mono ?_
                  · have e1 : (key ++ (⟨#[120]⟩ : ByteArray)).size = key.size + 1 := by rw [ByteArray.size_append]; rfl
                    rw [e1]; unfold maxLen; omega
                  rintro e w3 ⟨rfl, z3⟩
                  clear z2 a1
                  go_wp2_with fail
                  refine (x_clear (i := 1) (K := K.add _) z3 rfl (hK.add _)).mono ?_
                  rintro e V2 ⟨rfl, z5⟩
                  have z4 : Sx w [⟨E, r0, K0.n, K0⟩, ⟨R, r, c, K⟩] [⟨p2, g2, K.n / 64, K⟩] A x0 key V2 := z5.less (List.Sublist.refl _) (by simp)
                  clear z3 z5
                  go_wp2_with fail
                  refine (x_words (i := 0) z4 rfl hK').mono ?_
                  rintro e wv ⟨d, rfl, nv, bv, hd⟩
                  have hm : K.n / 64 ≤ 16384 := by have := hK'.n64; omega
                  have hq : K.n / 64 = K.n / 64 := rfl
                  generalize hqm : K.n / 64 = m at nv hm ⊢
                  have Hqm := Lib.hid hqm
                  clear hqm hq
                  go_wp2_with fail
                  go_loopw [28] (fun y wi => ∃ j F, j ≤ m ∧ y = .int .i64 (j : Nat) ∧ Nums wi .u64 22 d m m F ∧ Below V2.heap.size V2 wi) (fun y _ => m - (intOf y).toNat)
                  case atStart => exact ⟨0, _, Nat.zero_le _, rfl, nv, bv⟩
                  case round =>
                    obtain ⟨j, F, hj, rfl, ni, bi⟩ := hrel
                    clear nv bv
                    by_cases hjm : j < m
                    · have cj := ni.cell hjm
                      have fj := ni.frozen j
                      have nn := fun X => ni.put j X
                      have bb := fun X => below_put bi (i := j) hd (.int .u64 X)
                      have NN := Lib.hid nn
                      have BB := Lib.hid bb
                      clear nn bb
                      generalize F j = fv at *
                      go_wp2_with fail
                      go_roundw
                      case rel => exact ⟨j + 1, _, by omega, by go_num, NN.out _, BB.out _⟩
                      all_goals (simp [intOf]; omega)
                    · obtain rfl : m = j := by omega
                      have z9 := z4.step bi
                      clear ni bi z4
                      have a1 := z9.act1
                      have mm : wr.cell? ⟨R, 0, none⟩ = some (.int .i64 (K.h : Nat)) ∧ wr.cell? ⟨R, 1, none⟩ = some (.int .u64 K.seed) ∧ wr.cell? ⟨R, 2, none⟩ = some (.slice (some ⟨r, 0, none⟩) K.n c) := z9.st.cells (i := 1) rfl
                      obtain ⟨mm0, mm1, mm2⟩ := mm
                      go_wp2_with fail
                      refine (x_equal (i := 0) (j := 1) z9 rfl rfl hK' key hkey).mono ?_
                      rintro e wz ⟨rfl, z10⟩
                      go_wp2_with fail
                      go_roundw
                      case rel => exact ⟨k + 1, p2, g2, (K.n / 64), r, c, K, by omega, rfl, by go_num, hK', hE'.out, z10.st⟩
                      all_goals (simp [intOf]; omega)
          · obtain rfl : len = k := by omega
            go_wp2_with (first | (go_at_call 10; refine (t_known z).mono ?_; rintro e w4 ⟨rfl, z4⟩))
            go_ret
            exact ⟨rfl, z4.bel⟩
    · have hbig' : (1024 : Int) < (K0.n : Int) := by omega
      go_enter Try.func7, Try.ntmps7
      go_wp2_with fail
      refine (t_rnew z hK0 Hb.out).mono ?_
      rintro e w1 ⟨r0, rfl, z1, s1⟩
      clear z s1
      go_upto_region 2 with fail
      refine wp_seen _ (z1.alloc _) ?_
      clear z1
      rintro W z
      go_wp2_with (first | (go_at_call 10; refine (t_known z).mono ?_; rintro e w4 ⟨rfl, z4⟩))
      go_ret
      exact ⟨rfl, z4.bel⟩
  · have hn := Lib.hid (ok_not ho)
    have z := St.start w
    clear ho hsd
    go_enter Try.func7, Try.ntmps7
    go_wp2_with fail
    refine (t_rnewNo z hn.out).mono ?_
    rintro e w1 ⟨rfl, z1⟩
    clear z
    go_upto_region 2 with fail
    refine wp_seen _ (z1.alloc _) ?_
    clear z1
    rintro W z
    go_wp2_with (first | (go_at_call 10; refine (t_known z).mono ?_; rintro e w4 ⟨rfl, z4⟩))
    go_ret
    exact ⟨rfl, z4.bel⟩
end Go.Proofs.Ytihgidkkdjmlkaa
