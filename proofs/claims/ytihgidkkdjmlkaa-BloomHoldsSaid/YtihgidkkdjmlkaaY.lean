/-
  The plain law of BloomHolds, and its walk.
-/
import Derived.Test.YtihgidkkdjmlkaaU
namespace Go.Proofs.Ytihgidkkdjmlkaa
open Go.ChangeShapes Go.WideShapes Go.ChangeAt Go.RowKit
set_option linter.unusedVariables false

def LikeP (K K0 : Bl) : Prop := K.n = K0.n ∧ K.h = K0.h ∧ K.seed = K0.seed
theorem LikeP.ok {K K0 : Bl} (h : LikeP K K0) (h0 : K0.Ok) : K.Ok := ⟨by rw [h.1]; exact h0.pow, by rw [h.2.1]; exact h0.hash, by rw [h.2.2]; exact h0.seed⟩
theorem LikeP.pls {K K0 : Bl} (h : LikeP K K0) (key : List UInt8) : K.pls key = K0.pls key := by
  obtain ⟨h1, h2, h3⟩ := h
  cases K
  cases K0
  simp at h1 h2 h3
  subst h1 h2 h3
  rfl
theorem add_b {K K0 : Bl} (h : LikeP K K0) (key : List UInt8) (j : Nat) : (K.add key).b j = true ↔ K.b j = true ∨ j ∈ K0.pls key := by
  rw [← h.pls key]
  exact setAll_iff _ _ _
/-- What the first loop keeps: the keys of the rounds that were. -/
structure HI (K0 : Bl) (len : Nat) (gk : Nat → ByteArray) (cut : Int) (i : Nat) (A B C D : Bl) : Prop where
  la : LikeP A K0
  lb : LikeP B K0
  lc : LikeP C K0
  ld : LikeP D K0
  ab : ∀ j, A.b j = true ↔ ∃ m, m < i ∧ j ∈ K0.pls (gk m).data.toList
  bb : ∀ j, B.b j = true ↔ ∃ m, m < i ∧ j ∈ K0.pls (gk (len - 1 - m)).data.toList
  cb : ∀ j, C.b j = true ↔ ∃ m, m < i ∧ (m : Int) < cut ∧ j ∈ K0.pls (gk m).data.toList
  db : ∀ j, D.b j = true ↔ ∃ m, m < i ∧ ¬ (m : Int) < cut ∧ j ∈ K0.pls (gk m).data.toList
section
variable {K0 : Bl} {len : Nat} {gk : Nat → ByteArray} {cut : Int} {i : Nat} {A B C D : Bl}
theorem HI.zero (hb : K0.b = fun _ => false) : HI K0 len gk cut 0 K0 K0 K0 K0 :=
  ⟨⟨rfl, rfl, rfl⟩, ⟨rfl, rfl, rfl⟩, ⟨rfl, rfl, rfl⟩, ⟨rfl, rfl, rfl⟩, fun j => by rw [hb]; simp, fun j => by rw [hb]; simp, fun j => by rw [hb]; simp, fun j => by rw [hb]; simp⟩
theorem ex_succ {P : Nat → Prop} : (∃ m, m < i + 1 ∧ P m) ↔ (∃ m, m < i ∧ P m) ∨ P i := by
  constructor
  · rintro ⟨m, hm, h⟩
    by_cases e : m = i
    · subst e; exact .inr h
    · exact .inl ⟨m, by omega, h⟩
  · rintro (⟨m, hm, h⟩ | h)
    · exact ⟨m, by omega, h⟩
    · exact ⟨i, by omega, h⟩
theorem HI.nextA (z : HI K0 len gk cut i A B C D) (j : Nat) : ((A.add (gk i).data.toList).add (gk i).data.toList).b j = true ↔ ∃ m, m < i + 1 ∧ j ∈ K0.pls (gk m).data.toList := by
  rw [add_b (K := A.add (gk i).data.toList) z.la, add_b z.la, z.ab, ex_succ]
  constructor
  · rintro ((h | h) | h)
    · exact .inl h
    · exact .inr h
    · exact .inr h
  · rintro (h | h)
    · exact .inl (.inl h)
    · exact .inr h
theorem HI.nextB (z : HI K0 len gk cut i A B C D) (j : Nat) : (B.add (gk (len - 1 - i)).data.toList).b j = true ↔ ∃ m, m < i + 1 ∧ j ∈ K0.pls (gk (len - 1 - m)).data.toList := by
  rw [add_b z.lb, z.bb, ex_succ (P := fun m => j ∈ K0.pls (gk (len - 1 - m)).data.toList)]
theorem HI.nextC (z : HI K0 len gk cut i A B C D) (hc : (i : Int) < cut) : HI K0 len gk cut (i + 1) ((A.add (gk i).data.toList).add (gk i).data.toList) (B.add (gk (len - 1 - i)).data.toList) (C.add (gk i).data.toList) D :=
  ⟨z.la, z.lb, z.lc, z.ld, z.nextA, z.nextB, fun j => by rw [add_b z.lc, z.cb, ex_succ (P := fun m => (m : Int) < cut ∧ j ∈ K0.pls (gk m).data.toList)]; simp [hc], fun j => by rw [z.db, ex_succ (P := fun m => ¬ (m : Int) < cut ∧ j ∈ K0.pls (gk m).data.toList)]; simp [hc]⟩
theorem HI.nextD (z : HI K0 len gk cut i A B C D) (hc : ¬ (i : Int) < cut) : HI K0 len gk cut (i + 1) ((A.add (gk i).data.toList).add (gk i).data.toList) (B.add (gk (len - 1 - i)).data.toList) C (D.add (gk i).data.toList) :=
  ⟨z.la, z.lb, z.lc, z.ld, z.nextA, z.nextB, fun j => by rw [z.cb, ex_succ (P := fun m => (m : Int) < cut ∧ j ∈ K0.pls (gk m).data.toList)]; simp [hc], fun j => by rw [add_b z.ld, z.db, ex_succ (P := fun m => ¬ (m : Int) < cut ∧ j ∈ K0.pls (gk m).data.toList)]; simp [hc]⟩
theorem HI.has (z : HI K0 len gk cut len A B C D) {m : Nat} (hm : m < len) : A.has (gk m).data.toList = true := by
  rw [has_iff]
  intro p hp
  rw [z.la.pls] at hp
  exact (z.ab p).2 ⟨m, hm, hp⟩
theorem bool_iff {a b : Bool} (h : a = true ↔ b = true) : a = b := by rw [Bool.eq_iff_iff]; exact h
theorem HI.back (z : HI K0 len gk cut len A B C D) (j : Nat) : B.b j = A.b j := by
  apply bool_iff
  rw [z.bb, z.ab]
  constructor
  · rintro ⟨m, hm, h⟩; exact ⟨len - 1 - m, by omega, h⟩
  · rintro ⟨m, hm, h⟩; exact ⟨len - 1 - m, by omega, by rw [show len - 1 - (len - 1 - m) = m by omega]; exact h⟩
theorem HI.parts (z : HI K0 len gk cut len A B C D) (j : Nat) : (C.join D).b j = A.b j := by
  apply bool_iff
  show (C.b j || D.b j) = true ↔ _
  rw [Bool.or_eq_true, z.cb, z.db, z.ab]
  constructor
  · rintro (⟨m, hm, _, h⟩ | ⟨m, hm, _, h⟩)
    · exact ⟨m, hm, h⟩
    · exact ⟨m, hm, h⟩
  · rintro ⟨m, hm, h⟩
    by_cases q : (m : Int) < cut
    · exact .inl ⟨m, hm, q, h⟩
    · exact .inr ⟨m, hm, q, h⟩
/-- What is asked of the numbers of bits. -/
theorem HI.counts (z : HI K0 len gk cut i A B C D) (h0 : K0.Ok) (key : List UInt8) : ((A.add key).add key).ones ≤ A.ones + K0.h ∧ A.ones ≤ K0.n ∧ (A.has key = true → ((A.add key).add key).ones = A.ones) ∧ (A.has key = false → A.ones < ((A.add key).add key).ones) := by
  have hA := z.la.ok h0
  have h1 := ones_add hA key
  have h2 := ones_add (hA.add key) key
  have e := h2.2.2.2 (has_add A key)
  have hh := z.la.2.1
  refine ⟨by omega, ?_, fun q => by rw [e]; exact h1.2.2.2 q, fun q => by rw [e]; exact h1.2.2.1 q⟩
  have := cntB_le A.b A.n
  rw [← z.la.1]
  exact this
end
section
variable {w W : World} {bs : List Bx} {fs : List Fl} {i m : Nat}
theorem y_words {p g q : Nat} {K : Bl} (z : St w bs fs W) (h : fs[i]? = some ⟨p, g, q, K⟩) (hK : K.Ok) (hm : K.n / 64 = m) : Calls Try.prog 24 #[.pointer (some ⟨p, 0, none⟩)] W fun e w' => ∃ d, e = .returned (.slice (some ⟨d, 0, none⟩) m m) ∧ St w bs fs w' ∧ Nums w' .u64 22 d m m (wordsF K.b) ∧ Below W.heap.size W w' := by
  subst hm
  exact (t_words z h hK).mono fun e w' ⟨d, q1, q2, q3, q4, _⟩ => ⟨d, q1, q2, q3, q4⟩
theorem y_same {d d2 : Nat} {f f' : Nat → Bool} (z : St w bs fs W) (n1 : Nums W .u64 22 d m m (wordsF f)) (n2 : Nums W .u64 22 d2 m m (wordsF f')) (hf : ∀ j, f j = f' j) (hm : m ≤ 1048576) : Calls Try.prog 23 #[.slice (some ⟨d, 0, none⟩) m m, .slice (some ⟨d2, 0, none⟩) m m] W fun e w' => e = .returned (.bool true) ∧ St w bs fs w' := by
  have e : f = f' := funext hf
  subst e
  exact (same_is n1 n2 (fun _ _ => rfl) hm).mono fun e w' ⟨q1, q2⟩ => ⟨q1, z.step q2⟩
end
theorem u8_le {x : Int} (h : (Lit.int .u8 x).wf = true) : 0 ≤ x ∧ x ≤ 255 := by
  have := bounds_u8 h; omega
set_option maxRecDepth 100000 in
set_option maxHeartbeats 16000000 in
theorem bloomHolds_walk (n h seed : Int) (sl : Option Addr) (len cap : Nat) (f : Nat → Int) (gk : Nat → ByteArray) (cut : Int) (w1 : (Lit.int .i64 n).wf = true) (w2 : (Lit.int .i64 h).wf = true) (w3 : (Lit.int .u64 seed).wf = true) (w4 : (Lit.int .u8 cut).wf = true) (w : World) (hl : len ≤ maxLen) (hacts : IsActs w sl len f gk) :
    Calls Try.prog 6 #[.int .i64 n, .int .i64 h, .int .u64 seed, .slice sl len cap, .int .u8 cut] w fun e w' => e = .returned (.bool true) ∧ Below w.heap.size w w' := by
  have hsd := word_of w3
  obtain ⟨hcu0, hcu1⟩ := u8_le w4
  clear w1 w2 w3 w4
  have hlen : len ≤ 9223372036854775807 := by unfold maxLen at hl; omega
  by_cases ho : okN n h
  · obtain ⟨K0, hK0, hb, rfl, rfl, rfl⟩ := ok_get ho hsd
    have Hb := Lib.hid hb
    have z := St.start w
    clear ho hb hsd
    by_cases hbig : K0.n ≤ 1024
    · have hbig' : ¬ (1024 : Int) < (K0.n : Int) := by omega
      go_enter Try.func6, Try.ntmps6
      go_wp2_with fail
      refine (t_rnew z hK0 Hb.out).mono ?_
      rintro e w1 ⟨r0, rfl, z1, s1⟩
      clear z s1
      go_upto_region 2 with fail
      refine wp_seen _ (z1.alloc _) ?_
      clear z1
      rintro W z
      have F21 := few_is (cap := cap) 40 (by omega) (hacts.below z.bel) hl
      go_wp2_with fail
      refine F21.mono ?_
      rintro e w2 ⟨bb, rfl, hbb, rfl⟩
      clear F21
      cases bb
      · go_wp2_with (first | (go_at_call 10; refine (t_known z).mono ?_; rintro e w4 ⟨rfl, z4⟩))
        go_ret
        exact ⟨rfl, z4.bel⟩
      · obtain ⟨h40, h300⟩ := hbb rfl
        have H300 := Lib.hid h300
        clear hbb h300 hl hlen
        go_wp2_with fail
        refine (t_new z hK0 Hb.out).mono ?_
        rintro e x1 ⟨pA, gA, rfl, z1⟩
        clear z
        go_wp2_with fail
        refine (t_new z1 hK0 Hb.out).mono ?_
        rintro e x2 ⟨pB, gB, rfl, z2⟩
        clear z1
        go_wp2_with fail
        refine (t_new z2 hK0 Hb.out).mono ?_
        rintro e x3 ⟨pC, gC, rfl, z3⟩
        clear z2
        go_wp2_with fail
        refine (t_new z3 hK0 Hb.out).mono ?_
        rintro e x4 ⟨pD, gD, rfl, z4⟩
        clear z3
        go_wp2_with fail
        go_loopw [21] (fun x wr => ∃ k A B C D, k ≤ len ∧ x = .int .i64 (k : Nat) ∧ HI K0 len gk cut k A B C D ∧ St w [] [⟨pD, gD, K0.n / 64, D⟩, ⟨pC, gC, K0.n / 64, C⟩, ⟨pB, gB, K0.n / 64, B⟩, ⟨pA, gA, K0.n / 64, A⟩] wr) (fun x _ => len + 1 - (intOf x).toNat)
        case atStart => exact ⟨0, K0, K0, K0, K0, by omega, rfl, HI.zero Hb.out, z4⟩
        case round =>
          obtain ⟨k, A, B, C, D, hk, rfl, hi, z⟩ := hrel
          clear z4
          have hA := hi.la.ok hK0
          have hB := hi.lb.ok hK0
          have hC := hi.lc.ok hK0
          have hD := hi.ld.ok hK0
          have HI_ := Lib.hid hi
          clear hi
          by_cases hkl : k < len
          · obtain ⟨m, hm⟩ : ∃ m, len - 1 - k = m := ⟨_, rfl⟩
            have hml : m < len := by omega
            have hidx : (len : Int) - 1 - (k : Int) = (m : Int) := by omega
            have Hm := Lib.hid hm
            clear hm
            obtain ⟨Bk, off, rfl, ca, cb⟩ := acts_at hacts z.bel hkl
            have hkey : (gk k).size ≤ maxLen := by have := H300.out k hkl; unfold maxLen; omega
            have hkey2 : (gk m).size ≤ maxLen := by have := H300.out m hml; unfold maxLen; omega
            have hcn := Lib.hid (HI_.out.counts hK0 (gk k).data.toList)
            have hidx' := Lib.hid hidx
            clear hidx
            go_wp2_with fail
            refine (t_has (i := 3) z rfl hA (gk k) hkey).mono ?_
            rintro e y1 ⟨rfl, z1⟩
            clear z ca cb
            go_wp2_with fail
            refine (t_ones (i := 3) z1 rfl hA).mono ?_
            rintro e y2 ⟨rfl, z2⟩
            clear z1
            go_wp2_with fail
            refine (t_adds (i := 3) z2 rfl hA (gk k) hkey _ rfl).mono ?_
            rintro e y3 ⟨rfl, z3⟩
            have z3 : St w [] [⟨pD, gD, K0.n / 64, D⟩, ⟨pC, gC, K0.n / 64, C⟩, ⟨pB, gB, K0.n / 64, B⟩, ⟨pA, gA, K0.n / 64, A.add (gk k).data.toList⟩] y3 := z3
            clear z2
            go_wp2_with fail
            refine (t_adds (i := 3) z3 rfl (hA.add _) (gk k) hkey false (by rw [has_add]; rfl)).mono ?_
            rintro e y4 ⟨rfl, z4⟩
            have z4 : St w [] [⟨pD, gD, K0.n / 64, D⟩, ⟨pC, gC, K0.n / 64, C⟩, ⟨pB, gB, K0.n / 64, B⟩, ⟨pA, gA, K0.n / 64, (A.add (gk k).data.toList).add (gk k).data.toList⟩] y4 := z4
            clear z3
            obtain ⟨o2, ho2⟩ : ∃ o2, ((A.add (gk k).data.toList).add (gk k).data.toList).ones = o2 := ⟨_, rfl⟩
            have hc := hcn.out
            rw [ho2] at hc
            have Ho2 := Lib.hid ho2
            clear hcn ho2
            have hn8 := hK0.hash.2
            generalize A.ones = o1 at *
            generalize A.has (gk k).data.toList = hdk at *
            obtain ⟨c1, c2, c3, c4⟩ := hc
            cases hdk
            · have c4 := c4 rfl
              have c5 : ¬ (o2 : Int) = (o1 : Int) := by omega
              have c6 : ¬ (o1 : Int) + (K0.h : Int) < (o2 : Int) := by omega
              have c7 : ((o2 : Int) == (o1 : Int)) = false := by rw [beq_eq_false_iff_ne]; exact c5
              clear c3
              go_wp2_with fail
              refine (t_ones (i := 3) z4 rfl (hA.add _ |>.add _)).mono ?_
              rw [Ho2.out]
              rintro e y5 ⟨rfl, z5⟩
              clear z4
              go_wp2_with fail
              refine (t_ones (i := 3) z5 rfl (hA.add _ |>.add _)).mono ?_
              rw [Ho2.out]
              rintro e y6 ⟨rfl, z6⟩
              clear z5
              obtain ⟨B2, off2, e2, _, cb⟩ := acts_at hacts z6.bel hml
              simp at e2
              obtain ⟨rfl, rfl⟩ := e2
              have hidx := hidx'.out
              go_wp2_with fail
              refine (t_add (i := 2) z6 rfl hB (gk m) hkey2).mono ?_
              rintro e y7 ⟨rfl, z7⟩
              have z7 : St w [] [⟨pD, gD, K0.n / 64, D⟩, ⟨pC, gC, K0.n / 64, C⟩, ⟨pB, gB, K0.n / 64, B.add (gk m).data.toList⟩, ⟨pA, gA, K0.n / 64, (A.add (gk k).data.toList).add (gk k).data.toList⟩] y7 := z7
              clear z6 cb hidx
              by_cases hct : (k : Int) < cut
              · have hct' : ¬ cut ≤ (k : Int) := by omega
                have hn := HI_.out.nextC hct
                rw [Hm.out] at hn
                have Hn := Lib.hid hn
                clear hn
                go_wp2_with fail
                refine (t_add (i := 1) z7 rfl hC (gk k) hkey).mono ?_
                rintro e y8 ⟨rfl, z8⟩
                have z8 : St w [] [⟨pD, gD, K0.n / 64, D⟩, ⟨pC, gC, K0.n / 64, C.add (gk k).data.toList⟩, ⟨pB, gB, K0.n / 64, B.add (gk m).data.toList⟩, ⟨pA, gA, K0.n / 64, (A.add (gk k).data.toList).add (gk k).data.toList⟩] y8 := z8
                clear z7
                go_wp2_with fail
                go_roundw
                case rel => exact ⟨k + 1, _, _, _, _, by omega, by go_num, Hn.out, z8⟩
                all_goals (simp [intOf]; omega)
              · have hct' : cut ≤ (k : Int) := by omega
                have hn := HI_.out.nextD hct
                rw [Hm.out] at hn
                have Hn := Lib.hid hn
                clear hn
                go_wp2_with fail
                refine (t_add (i := 0) z7 rfl hD (gk k) hkey).mono ?_
                rintro e y8 ⟨rfl, z8⟩
                have z8 : St w [] [⟨pD, gD, K0.n / 64, D.add (gk k).data.toList⟩, ⟨pC, gC, K0.n / 64, C⟩, ⟨pB, gB, K0.n / 64, B.add (gk m).data.toList⟩, ⟨pA, gA, K0.n / 64, (A.add (gk k).data.toList).add (gk k).data.toList⟩] y8 := z8
                clear z7
                go_wp2_with fail
                go_roundw
                case rel => exact ⟨k + 1, _, _, _, _, by omega, by go_num, Hn.out, z8⟩
                all_goals (simp [intOf]; omega)
            · obtain rfl : o2 = o1 := c3 rfl
              have c6 : ¬ (o2 : Int) + (K0.h : Int) < (o2 : Int) := by omega
              clear c3 c4
              go_wp2_with fail
              refine (t_ones (i := 3) z4 rfl (hA.add _ |>.add _)).mono ?_
              rw [Ho2.out]
              rintro e y5 ⟨rfl, z5⟩
              clear z4
              go_wp2_with fail
              refine (t_ones (i := 3) z5 rfl (hA.add _ |>.add _)).mono ?_
              rw [Ho2.out]
              rintro e y6 ⟨rfl, z6⟩
              clear z5
              obtain ⟨B2, off2, e2, _, cb⟩ := acts_at hacts z6.bel hml
              simp at e2
              obtain ⟨rfl, rfl⟩ := e2
              have hidx := hidx'.out
              go_wp2_with fail
              refine (t_add (i := 2) z6 rfl hB (gk m) hkey2).mono ?_
              rintro e y7 ⟨rfl, z7⟩
              have z7 : St w [] [⟨pD, gD, K0.n / 64, D⟩, ⟨pC, gC, K0.n / 64, C⟩, ⟨pB, gB, K0.n / 64, B.add (gk m).data.toList⟩, ⟨pA, gA, K0.n / 64, (A.add (gk k).data.toList).add (gk k).data.toList⟩] y7 := z7
              clear z6 cb hidx
              by_cases hct : (k : Int) < cut
              · have hct' : ¬ cut ≤ (k : Int) := by omega
                have hn := HI_.out.nextC hct
                rw [Hm.out] at hn
                have Hn := Lib.hid hn
                clear hn
                go_wp2_with fail
                refine (t_add (i := 1) z7 rfl hC (gk k) hkey).mono ?_
                rintro e y8 ⟨rfl, z8⟩
                have z8 : St w [] [⟨pD, gD, K0.n / 64, D⟩, ⟨pC, gC, K0.n / 64, C.add (gk k).data.toList⟩, ⟨pB, gB, K0.n / 64, B.add (gk m).data.toList⟩, ⟨pA, gA, K0.n / 64, (A.add (gk k).data.toList).add (gk k).data.toList⟩] y8 := z8
                clear z7
                go_wp2_with fail
                go_roundw
                case rel => exact ⟨k + 1, _, _, _, _, by omega, by go_num, Hn.out, z8⟩
                all_goals (simp [intOf]; omega)
              · have hct' : cut ≤ (k : Int) := by omega
                have hn := HI_.out.nextD hct
                rw [Hm.out] at hn
                have Hn := Lib.hid hn
                clear hn
                go_wp2_with fail
                refine (t_add (i := 0) z7 rfl hD (gk k) hkey).mono ?_
                rintro e y8 ⟨rfl, z8⟩
                have z8 : St w [] [⟨pD, gD, K0.n / 64, D.add (gk k).data.toList⟩, ⟨pC, gC, K0.n / 64, C⟩, ⟨pB, gB, K0.n / 64, B.add (gk m).data.toList⟩, ⟨pA, gA, K0.n / 64, (A.add (gk k).data.toList).add (gk k).data.toList⟩] y8 := z8
                clear z7
                go_wp2_with fail
                go_roundw
                case rel => exact ⟨k + 1, _, _, _, _, by omega, by go_num, Hn.out, z8⟩
                all_goals (simp [intOf]; omega)
          · obtain rfl : len = k := by omega
            go_wp2_with fail
            have hm64 : K0.n / 64 ≤ 1048576 := by omega
            have hx1 := HI_.out.back
            have hx2 := HI_.out.parts
            have HX1 := Lib.hid hx1
            have HX2 := Lib.hid hx2
            have hlC : C.like D = true := by
              unfold Bl.like
              have h1 := HI_.out.lc
              have h2 := HI_.out.ld
              exact decide_eq_true ⟨h1.1.trans h2.1.symm, h1.2.1.trans h2.2.1.symm, h1.2.2.trans h2.2.2.symm⟩
            have HL := Lib.hid hlC
            have e1 : A.n / 64 = K0.n / 64 := by rw [HI_.out.la.1]
            have e2 : B.n / 64 = K0.n / 64 := by rw [HI_.out.lb.1]
            have e3 : (C.join D).n / 64 = K0.n / 64 := by show C.n / 64 = _; rw [HI_.out.lc.1]
            have E1 := Lib.hid e1
            have E2 := Lib.hid e2
            have E3 := Lib.hid e3
            clear hx1 hx2 hlC e1 e2 e3
            go_loopw [30] (fun x wr => ∃ j : Nat, j ≤ len ∧ x = .int .i64 (j : Nat) ∧ St w [] [⟨pD, gD, K0.n / 64, D⟩, ⟨pC, gC, K0.n / 64, C⟩, ⟨pB, gB, K0.n / 64, B⟩, ⟨pA, gA, K0.n / 64, A⟩] wr) (fun x _ => len + 1 - (intOf x).toNat)
            case atStart => exact ⟨0, by omega, rfl, z⟩
            case round =>
              obtain ⟨j, hj, rfl, z2⟩ := hrel
              clear z
              by_cases hjl : j < len
              · obtain ⟨Bk, off, rfl, ca, cb⟩ := acts_at hacts z2.bel hjl
                have hkey : (gk j).size ≤ maxLen := by have := H300.out j hjl; unfold maxLen; omega
                have hh := HI_.out.has hjl
                have HH := Lib.hid hh
                clear hh
                go_wp2_with fail
                refine (t_has (i := 3) z2 rfl hA (gk j) hkey).mono ?_
                rw [HH.out]
                rintro e y1 ⟨rfl, z3⟩
                clear z2 ca cb
                go_wp2_with fail
                go_roundw
                case rel => exact ⟨j + 1, by omega, by go_num, z3⟩
                all_goals (simp [intOf]; omega)
              · obtain rfl : len = j := by omega
                go_wp2_with fail
                refine (t_join (i := 1) (j := 0) z2 rfl rfl (by decide) hC hD HL.out).mono ?_
                rintro e v1 ⟨rfl, z3⟩
                have z3 : St w [] [⟨pD, gD, K0.n / 64, D⟩, ⟨pC, gC, K0.n / 64, C.join D⟩, ⟨pB, gB, K0.n / 64, B⟩, ⟨pA, gA, K0.n / 64, A⟩] v1 := z3
                clear z2
                go_wp2_with fail
                refine (y_words (i := 1) z3 rfl hC.join E3.out).mono ?_
                rintro e v2 ⟨d1, rfl, z4, n1, b1⟩
                clear z3
                go_wp2_with fail
                refine (y_words (i := 3) z4 rfl hA E1.out).mono ?_
                rintro e v3 ⟨d2, rfl, z5, n2, b2⟩
                clear z4
                have n1 := n1.keep (Keeps.of_below (S := []) b2) (by simp)
                go_wp2_with fail
                refine (y_same z5 n1 n2 HX2.out hm64).mono ?_
                rintro e v4 ⟨rfl, z6⟩
                clear z5 n1 n2
                go_wp2_with fail
                refine (y_words (i := 2) z6 rfl hB E2.out).mono ?_
                rintro e v5 ⟨d3, rfl, z7, n3, b3⟩
                clear z6
                go_wp2_with fail
                refine (y_words (i := 3) z7 rfl hA E1.out).mono ?_
                rintro e v6 ⟨d4, rfl, z8, n4, b4⟩
                clear z7
                have n3 := n3.keep (Keeps.of_below (S := []) b4) (by simp)
                go_wp2_with fail
                refine (y_same z8 n3 n4 HX1.out hm64).mono ?_
                rintro e v7 ⟨rfl, z9⟩
                clear z8 n3 n4
                go_wp2_with fail
                refine (t_known z9).mono ?_
                rintro e v8 ⟨rfl, z10⟩
                go_wp2_with fail
                go_ret
                exact ⟨rfl, z10.bel⟩
    · have hbig' : (1024 : Int) < (K0.n : Int) := by omega
      go_enter Try.func6, Try.ntmps6
      go_wp2_with fail
      refine (t_rnew z hK0 Hb.out).mono ?_
      rintro e w1 ⟨r0, rfl, z1, s1⟩
      clear z s1
      go_upto_region 2 with fail
      refine wp_seen _ (z1.alloc _) ?_
      clear z1
      rintro W z
      go_wp2_with (first | (go_at_call 10; refine (t_known z).mono ?_; rintro e w4 ⟨rfl, z4⟩))
      go_ret
      exact ⟨rfl, z4.bel⟩
  · have hn := Lib.hid (ok_not ho)
    have z := St.start w
    clear ho hsd
    go_enter Try.func6, Try.ntmps6
    go_wp2_with fail
    refine (t_rnewNo z hn.out).mono ?_
    rintro e w1 ⟨rfl, z1⟩
    clear z
    go_upto_region 2 with fail
    refine wp_seen _ (z1.alloc _) ?_
    clear z1
    rintro W z
    go_wp2_with (first | (go_at_call 10; refine (t_known z).mono ?_; rintro e w4 ⟨rfl, z4⟩))
    go_ret
    exact ⟨rfl, z4.bel⟩
end Go.Proofs.Ytihgidkkdjmlkaa
