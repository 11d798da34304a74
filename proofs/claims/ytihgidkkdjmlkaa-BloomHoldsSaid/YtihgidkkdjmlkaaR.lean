/-
  The plain law of adding: what is set, and how many.
-/
import Derived.Test.YtihgidkkdjmlkaaQ
namespace Go.Proofs.Ytihgidkkdjmlkaa
open Go.ChangeShapes Go.WideShapes Go.ChangeAt Go.RowKit
set_option linter.unusedVariables false

theorem setAll_iff (f : Nat → Bool) (i : Nat) : ∀ l, setAll f l i = true ↔ f i = true ∨ i ∈ l
  | [] => by simp [setAll]
  | p :: l => by
    show setAll (setB f p) l i = true ↔ _
    rw [setAll_iff (setB f p) i l]
    unfold setB
    simp only [Bool.or_eq_true, decide_eq_true_eq, List.mem_cons]
    constructor
    · rintro ((h | h) | h)
      · exact .inl h
      · exact .inr (.inl h)
      · exact .inr (.inr h)
    · rintro (h | h | h)
      · exact .inl (.inl h)
      · exact .inl (.inr h)
      · exact .inr h
theorem has_iff (K : Bl) (key : List UInt8) : K.has key = true ↔ ∀ p ∈ K.pls key, K.b p = true := by unfold Bl.has; exact List.all_eq_true
theorem pls_mem {K : Bl} (h : K.Ok) {key : List UInt8} {p : Nat} (hp : p ∈ K.pls key) : p < K.n := by
  unfold Bl.pls at hp
  obtain ⟨i, _, rfl⟩ := List.mem_map.1 hp
  exact K.plc_lt h key i
theorem pls_length (K : Bl) (key : List UInt8) : (K.pls key).length = K.h := by unfold Bl.pls; simp
theorem has_add (K : Bl) (key : List UInt8) : (K.add key).has key = true := by
  rw [has_iff]
  intro p hp
  exact (setAll_iff _ _ _).2 (.inr hp)
theorem has_fresh {K : Bl} (h : K.Ok) (hb : K.b = fun _ => false) (key : List UInt8) : K.has key = false := by
  cases q : K.has key with
  | false => rfl
  | true =>
    rw [has_iff] at q
    have := q (K.plc key 0) (by unfold Bl.pls; exact List.mem_map.2 ⟨0, by simp; have := h.hash; omega, rfl⟩)
    rw [hb] at this
    cases this
theorem sm_single (p : Nat) (m : Nat) (h : p < m) (f g : Nat → Nat) (e : ∀ i, i ≠ p → g i = f i) : sm g m + f p = sm f m + g p := by
  induction m with
  | zero => omega
  | succ m ih =>
    show sm g m + g m + f p = sm f m + f m + g p
    by_cases q : m = p
    · subst q
      rw [sm_congr (m := m) (fun i hi => e i (by omega))]; omega
    · rw [e m q]
      have := ih (by omega)
      omega
theorem cnt_set (f : Nat → Bool) (n p : Nat) (h : p < n) : cntB (setB f p) n = cntB f n + (if f p = true then 0 else 1) := by
  have := sm_single p n h (fun i => (f i).toNat) (fun i => (setB f p i).toNat) (fun i hi => by unfold setB; simp [hi])
  unfold cntB
  have e : (setB f p p).toNat = 1 := by unfold setB; simp
  simp only [e] at this
  cases hf : f p
  · rw [hf] at this; simp at this ⊢; omega
  · rw [hf] at this; simp at this ⊢; omega
theorem cnt_setAll (n : Nat) : ∀ (l : List Nat) (f : Nat → Bool), (∀ p ∈ l, p < n) → cntB f n ≤ cntB (setAll f l) n ∧ cntB (setAll f l) n ≤ cntB f n + l.length ∧ (l.all f = false → cntB f n < cntB (setAll f l) n) ∧ (l.all f = true → cntB (setAll f l) n = cntB f n)
  | [], f, _ => ⟨Nat.le_refl _, Nat.le_refl _, fun h => by simp at h, fun _ => rfl⟩
  | p :: l, f, h => by
    have hp : p < n := h p (by simp)
    obtain ⟨i1, i2, i3, i4⟩ := cnt_setAll n l (setB f p) (fun x hx => h x (by simp [hx]))
    have hs := cnt_set f n p hp
    show cntB f n ≤ cntB (setAll (setB f p) l) n ∧ cntB (setAll (setB f p) l) n ≤ cntB f n + (l.length + 1) ∧ _ ∧ _
    cases hf : f p with
    | true =>
      rw [hf, if_pos rfl] at hs
      have hfun : setB f p = f := by
        funext i
        unfold setB
        by_cases e : i = p
        · subst e; simp [hf]
        · simp [e]
      rw [hfun] at i1 i2 i3 i4
      show _ ∧ _ ∧ ((p :: l).all f = false → cntB f n < cntB (setAll (setB f p) l) n) ∧ ((p :: l).all f = true → cntB (setAll (setB f p) l) n = cntB f n)
      rw [hfun, List.all_cons, hf, Bool.true_and]
      exact ⟨i1, by omega, i3, i4⟩
    | false =>
      rw [hf, if_neg (by decide)] at hs
      refine ⟨by omega, by omega, fun _ => ?_, fun q => ?_⟩
      · show cntB f n < cntB (setAll (setB f p) l) n
        omega
      · rw [List.all_cons, hf] at q; simp at q
theorem ones_add {K : Bl} (h : K.Ok) (key : List UInt8) : K.ones ≤ (K.add key).ones ∧ (K.add key).ones ≤ K.ones + K.h ∧ (K.has key = false → K.ones < (K.add key).ones) ∧ (K.has key = true → (K.add key).ones = K.ones) := by
  have := cnt_setAll K.n (K.pls key) K.b (fun p hp => pls_mem h hp)
  rw [pls_length] at this
  exact this
theorem ones_fresh {K : Bl} (hb : K.b = fun _ => false) : K.ones = 0 := by
  unfold Bl.ones
  rw [hb]
  unfold cntB
  have : ∀ m, sm (fun _ => (false).toNat) m = 0 := by
    intro m
    induction m with
    | zero => rfl
    | succ m ih => show sm (fun _ => (false).toNat) m + 0 = 0; omega
  exact this _
set_option maxRecDepth 100000 in
set_option maxHeartbeats 8000000 in
theorem bloomPlaces_walk (n h seed : Int) (key : ByteArray) (w1 : (Lit.int .i64 n).wf = true) (w2 : (Lit.int .i64 h).wf = true) (w3 : (Lit.int .u64 seed).wf = true) (hs : key.size ≤ maxLen) (w : World) :
    Calls Try.prog 4 #[.int .i64 n, .int .i64 h, .int .u64 seed, .string key] w fun e w' => e = .returned (.bool true) ∧ Below w.heap.size w w' := by
  have hsd := word_of w3
  clear w1 w2 w3
  by_cases ho : okN n h
  · obtain ⟨K, hK, hb, rfl, rfl, rfl⟩ := ok_get ho hsd
    have Hb := Lib.hid hb
    have F1 := Lib.hid (show (!K.has key.data.toList) = true by rw [has_fresh hK hb]; rfl)
    have F2 := Lib.hid (has_add K key.data.toList)
    have ha := ones_add hK key.data.toList
    have hz := ones_fresh hb
    have hl1 : (1 : Int) ≤ (((K.add key.data.toList).ones : Nat) : Int) := by have := ha.2.2.1 (has_fresh hK hb _); omega
    have hl2 : (((K.add key.data.toList).ones : Nat) : Int) ≤ (K.h : Int) := by have := ha.2.1; omega
    have hKa := hK.add key.data.toList
    have Hl1 := Lib.hid hl1
    have Hl2 := Lib.hid hl2
    clear hb hsd ho ha hz hl1 hl2
    by_cases h3 : key.size ≤ 300
    · have h3' : ¬ (300 : Int) < (key.size : Int) := by omega
      go_enter Try.func4, Try.ntmps4
      go_wp2_with fail
      refine (k_rnew hK Hb.out _).mono ?_
      rintro e w1 ⟨r, rfl, s1, b1, hr⟩
      go_upto_region 2 with fail
      refine wp_seen _ (Box.start b1 s1) ?_
      clear s1 b1 hr
      generalize w1.heap.size = R
      rintro W z
      go_upto_region 5 with (first | (go_at_call 11; refine (k_new hK Hb.out _).mono ?_; rintro e w2 ⟨p, g, rfl, b2, q1, q2, s2⟩))
      have zf := BoxF.start z b2 q1 q2 s2
      clear z b2 s2 q1 q2
      obtain ⟨m0, m1, m2⟩ := zf.bx.cells
      go_wp2_with fail
      refine (f_rplaces zf hK key hs).mono ?_
      rintro e w3 ⟨A, d, rfl, z3, i3⟩
      go_wp2_with fail
      refine (f_places z3 hK key hs i3).mono ?_
      rintro e w4 ⟨rfl, z4⟩
      clear zf z3 i3 m0 m1 m2
      go_wp2_with fail
      refine (f_adds z4 hK key hs true F1.out).mono ?_
      rintro e w5 ⟨rfl, z5⟩
      clear z4
      go_wp2_with fail
      refine (f_has z5 hKa key hs true F2.out).mono ?_
      rintro e w6 ⟨rfl, z6⟩
      clear z5
      generalize hon : (K.add key.data.toList).ones = on at *
      have Hon := Lib.hid hon
      clear hon
      have hl1 := Hl1.out
      have hl2 := Hl2.out
      go_wp2_with (first | (go_at_call 17; refine (f_ones (by assumption) hKa).mono ?_; rw [Hon.out]; rintro e w7 ⟨rfl, z7⟩) | (go_at_call 10; refine (f_known (by assumption)).mono ?_; rintro e w8 ⟨rfl, z8⟩))
      go_ret
      exact ⟨rfl, z8.bx.bel⟩
    · have h3' : (300 : Int) < (key.size : Int) := by omega
      go_enter Try.func4, Try.ntmps4
      go_wp2_with fail
      refine (k_rnew hK Hb.out _).mono ?_
      rintro e w1 ⟨r, rfl, s1, b1, hr⟩
      go_upto_region 2 with fail
      refine wp_seen _ (Box.start b1 s1) ?_
      clear s1 b1 hr
      generalize w1.heap.size = R
      rintro W z
      go_wp2_with (first | (go_at_call 10; refine (b_known z).mono ?_; rintro e w4 ⟨rfl, z4⟩))
      go_ret
      exact ⟨rfl, z4.bel⟩
  · have hn := ok_not ho
    have Hn := Lib.hid hn
    clear ho hn
    go_enter Try.func4, Try.ntmps4
    go_wp2_with fail
    refine (rnew_no n h seed Hn.out _).mono ?_
    rintro e w1 ⟨rfl, b1⟩
    go_upto_region 2 with fail
    refine wp_seen (fun W => Below w.heap.size w W) (b1.alloc b1.size _) ?_
    clear b1
    rintro W b
    go_wp2_with (first | (go_at_call 10; refine (known_below w _ b).mono ?_; rintro e w4 ⟨rfl, z4⟩))
    go_ret
    exact ⟨rfl, z4⟩
end Go.Proofs.Ytihgidkkdjmlkaa
