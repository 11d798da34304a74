/-
  The plain law of SecondHolds: which keys are there, what leaves, and the order without hits.
-/
import Derived.Test.YtbjhpefnonnkmaaX
namespace Go.Proofs.Ytbjhpefnonnkmaa
open Go.ChangeShapes Go.WideShapes Go.ChangeAt Go.RowKit
set_option linter.unusedVariables false

/-- The keys of a ring. -/
def keysC (R : List Pl) : List Int := (canon R 0).map (·.1)
theorem mem_keysC {R : List Pl} {k : Int} : k ∈ keysC R ↔ ∃ (j : Nat) (x : Pl), R[j]? = some x ∧ x.full = true ∧ x.key = k := by
  unfold keysC
  constructor
  · intro h
    obtain ⟨⟨a, b⟩, hm, rfl⟩ := List.mem_map.1 h
    obtain ⟨j, x, h1, h2, h3, _⟩ := mem_canon.1 hm
    exact ⟨j, x, h1, h2, h3⟩
  · rintro ⟨j, x, h1, h2, h3⟩
    exact List.mem_map.2 ⟨(k, ((0 + j : Nat) : Int)), mem_canon.2 ⟨j, x, h1, h2, h3, rfl⟩, rfl⟩
theorem atR_mem {R : List Pl} {k : Int} : (atR R k).isSome = decide (k ∈ keysC R) := by
  cases h : atR R k with
  | some i =>
    obtain ⟨x, h1, h2, h3⟩ := atR_some h
    rw [decide_eq_true (mem_keysC.2 ⟨i, x, h1, h2, h3⟩)]; rfl
  | none =>
    rw [decide_eq_false]
    · rfl
    · intro hm
      obtain ⟨j, x, h1, h2, h3⟩ := mem_keysC.1 hm
      exact atR_none h h1 h2 h3
theorem keysC_length (R : List Pl) : (keysC R).length = fulls R := by unfold keysC; rw [List.length_map, canon_length]
theorem marks_none {R : List Pl} : marks R ≤ R.length := List.countP_le_length
/-- The hand's way: it stops at a place that was not marked, or has gone all around. -/
theorem sweep_law : ∀ (f : Nat) (R : List Pl) (h : Nat), h < R.length → ∃ t, t ≤ f ∧ (sweep f R h).2 = (h + t) % R.length ∧ (∀ s, s < t → ∀ x : Pl, R[(h + s) % R.length]? = some x → x.mark = true) ∧ (t < f → t < R.length → ∀ x : Pl, R[(sweep f R h).2]? = some x → x.mark = false) ∧ canon (sweep f R h).1 0 = canon R 0 ∧ (∀ i : Nat, ((sweep f R h).1[i]?).map (fun x : Pl => (x.key, x.full)) = (R[i]?).map (fun x : Pl => (x.key, x.full)))
  | 0, R, h, hh => ⟨0, Nat.le_refl _, (Nat.mod_eq_of_lt hh).symm, fun s hs => by omega, fun hs => by omega, rfl, fun _ => rfl⟩
  | f + 1, R, h, hh => by
    have hx : R[h]? = some R[h] := List.getElem?_eq_getElem hh
    by_cases hm : R[h].mark = true
    · have e : sweep (f + 1) R h = sweep f (R.set h ⟨R[h].key, R[h].full, false⟩) ((h + 1) % R.length) := by
        show (match R[h]? with | some x => if x.mark = true then sweep f (R.set h ⟨x.key, x.full, false⟩) ((h + 1) % R.length) else (R, h) | none => (R, h)) = _
        rw [hx]; simp [hm]
      have hn : 0 < R.length := by omega
      obtain ⟨t, t1, t2, t3, t4, t5, t6⟩ := sweep_law f (R.set h ⟨R[h].key, R[h].full, false⟩) ((h + 1) % R.length) (by rw [List.length_set]; exact Nat.mod_lt _ hn)
      rw [List.length_set] at t2 t3 t4
      have hmod : ∀ s, ((h + 1) % R.length + s) % R.length = (h + (s + 1)) % R.length := fun s => by
        rw [Nat.mod_add_mod]; congr 1; omega
      rw [e]
      refine ⟨t + 1, by omega, by rw [t2, hmod], ?_, ?_, by rw [t5, canon_mark _ hx], fun i => ?_⟩
      · intro s hs x hxs
        cases s with
        | zero =>
          rw [Nat.add_zero, Nat.mod_eq_of_lt hh, hx] at hxs
          obtain rfl : R[h] = x := by simpa using hxs
          exact hm
        | succ s =>
          have q := t3 s (by omega)
          rw [hmod] at q
          by_cases ei : h = (h + (s + 1)) % R.length
          · rw [← ei, hx] at hxs
            obtain rfl : R[h] = x := by simpa using hxs
            exact hm
          · rw [List.getElem?_set_ne ei] at q
            exact q x hxs
      · intro ht htn x hxs
        have q := t4 (by omega) (by omega)
        by_cases ei : h = (sweep f (R.set h ⟨R[h].key, R[h].full, false⟩) ((h + 1) % R.length)).2
        · exfalso
          rw [t2, hmod] at ei
          have h2 : (h + (t + 1)) % R.length = if h + (t + 1) < R.length then h + (t + 1) else h + (t + 1) - R.length := by
            split
            · exact Nat.mod_eq_of_lt ‹_›
            · rw [Nat.mod_eq_sub_mod (by omega)]; exact Nat.mod_eq_of_lt (by omega)
          rw [h2] at ei
          split at ei <;> omega
        · rw [List.getElem?_set_ne ei] at q
          exact q x hxs
      · rw [t6]
        by_cases ei : h = i
        · subst ei
          rw [hx]; simp [hh]
        · rw [List.getElem?_set_ne ei]
    · have e : sweep (f + 1) R h = (R, h) := by
        show (match R[h]? with | some x => if x.mark = true then sweep f (R.set h ⟨x.key, x.full, false⟩) ((h + 1) % R.length) else (R, h) | none => (R, h)) = _
        rw [hx]; simp [hm]
      rw [e]
      refine ⟨0, by omega, (Nat.mod_eq_of_lt hh).symm, fun s hs => by omega, fun _ _ x hxs => ?_, rfl, fun _ => rfl⟩
      rw [hx] at hxs
      obtain rfl : R[h] = x := by simpa using hxs
      simpa using hm
theorem all_marked {R : List Pl} {h : Nat} (hh : h < R.length) (H : ∀ s, s < R.length → ∀ x : Pl, R[(h + s) % R.length]? = some x → x.mark = true) : marks R = R.length := by
  unfold marks
  refine List.countP_eq_length.2 fun x hx => ?_
  obtain ⟨i, hi⟩ := List.getElem?_of_mem hx
  have hil : i < R.length := (List.getElem?_eq_some_iff.1 hi).1
  by_cases q : h ≤ i
  · refine H (i - h) (by omega) x ?_
    rw [show h + (i - h) = i by omega, Nat.mod_eq_of_lt hil]; exact hi
  · refine H (R.length - h + i) (by omega) x ?_
    rw [show h + (R.length - h + i) = i + R.length by omega, Nat.add_mod_right, Nat.mod_eq_of_lt hil]; exact hi
/-- What a request does, by keys. -/
structure Law (R : List Pl) (h : Nat) (k : Int) (o : Out) : Prop where
  len : o.R.length = R.length
  hand : o.h < R.length
  hit : o.hit = decide (k ∈ keysC R)
  left : o.left = true → o.hit = false ∧ o.out ∈ keysC R ∧ fulls R = R.length
  none : o.left = false → o.out = 0
  marked : o.left = true → ∀ (j : Nat) (x : Pl), R[j]? = some x → x.full = true → x.key = o.out → x.mark = true → marks R = R.length
  stay : o.hit = true → (keysC o.R).Perm (keysC R)
  come : o.hit = false → o.left = false → (keysC o.R).Perm (k :: keysC R)
  go : o.left = true → (o.out :: keysC o.R).Perm (k :: keysC R)
theorem use_law {R : List Pl} {h : Nat} (k : Int) (hA : Apart R) (hh : h < R.length) : Law R h k (useR R h k) := by
  have hat := atR_mem (R := R) (k := k)
  unfold useR
  cases hk : atR R k with
  | some i =>
    obtain ⟨x, hx, hf, hkx⟩ := atR_some hk
    have e : R.modify i (fun x => ⟨x.key, x.full, true⟩) = R.set i ⟨x.key, x.full, true⟩ := modify_set hx _
    refine ⟨by simp, hh, by rw [← hat, hk]; rfl, (fun q => by cases q), fun _ => rfl, fun q => (by cases q), fun _ => ?_, fun q => (by cases q), fun q => (by cases q)⟩
    show (keysC (R.modify i _)).Perm _
    rw [e]; unfold keysC; rw [canon_mark true hx]
  | none =>
    have hit : false = decide (k ∈ keysC R) := by rw [← hat, hk]; rfl
    cases hfr : freeR R with
    | some i =>
      obtain ⟨x, hx, hf⟩ := freeR_some hfr
      refine ⟨by simp, hh, hit, (fun q => by cases q), fun _ => rfl, fun q => (by cases q), fun q => (by cases q), fun _ _ => ?_, fun q => (by cases q)⟩
      have hc := canon_set (n := 0) ⟨k, true, false⟩ hx
      have e0 : piece x (0 + i) = [] := by unfold piece; rw [if_neg (by rw [hf]; decide)]
      have e1 : piece ⟨k, true, false⟩ (0 + i) = [(k, (i : Int))] := by unfold piece; rw [if_pos rfl, Nat.zero_add]
      rw [e0, e1] at hc
      exact (hc.map (·.1)).symm
    | none =>
      have hfull : fulls R = R.length := by
        have h1 := fulls_le R
        have h2 := free_iff (R := R)
        have h3 : ¬ fulls R < R.length := fun q => (h2.1 q) hfr
        omega
      obtain ⟨t, t1, t2, t3, t4, t5, t6⟩ := sweep_law R.length R h hh
      have hl1 := sweep_length R.length R h
      have hh1 := sweep_hand R.length R h hh
      generalize hs : sweep R.length R h = S at *
      obtain ⟨R1, h1⟩ := S
      have hl1 : R1.length = R.length := hl1
      have hh1 : h1 < R.length := hh1
      obtain ⟨y, hx⟩ : ∃ y, R1[h1]? = some y := ⟨_, List.getElem?_eq_getElem (by omega)⟩
      obtain ⟨z, hxR⟩ : ∃ z, R[h1]? = some z := ⟨_, List.getElem?_eq_getElem hh1⟩
      have hg : R1.getD h1 Pl.no = y := by rw [List.getD_eq_getElem?_getD, hx]; rfl
      have hsame := t6 h1
      rw [show (R1, h1).1 = R1 from rfl, hx, hxR] at hsame
      obtain ⟨ek, ef⟩ : y.key = z.key ∧ y.full = z.full := by simpa using hsame
      have hallf : ∀ x ∈ R, x.full = true := by
        have := List.countP_eq_length.1 hfull
        exact fun x hx => this x hx
      have hfz : z.full = true := hallf _ (List.mem_of_getElem? hxR)
      have hfx : y.full = true := ef.trans hfz
      have hmem : y.key ∈ keysC R := mem_keysC.2 ⟨h1, z, hxR, hfz, ek.symm⟩
      refine ⟨by show (R1.set h1 _).length = _; rw [List.length_set]; exact hl1, Nat.mod_lt _ (by omega), hit, fun _ => ⟨rfl, by show (R1.getD h1 Pl.no).key ∈ _; rw [hg]; exact hmem, hfull⟩, (fun q => by cases q), fun _ j x hj hjf hjk hjm => ?_, (fun q => by cases q), (fun _ q => by cases q), fun _ => ?_⟩
      · have hjk2 : x.key = z.key := by rw [hjk]; show (R1.getD h1 Pl.no).key = _; rw [hg, ek]
        have hj1 : j = h1 := hA.one hj hxR hjf hfz hjk2
        subst hj1
        by_cases ht : t < R.length
        · have := t4 ht ht x hj
          rw [hjm] at this; cases this
        · exact all_marked hh (fun s hs => t3 s (by omega))
      · have hc := canon_set (n := 0) ⟨k, true, false⟩ hx
        have e0 : piece y (0 + h1) = [(y.key, (h1 : Int))] := by unfold piece; rw [if_pos hfx, Nat.zero_add]
        have e1 : piece ⟨k, true, false⟩ (0 + h1) = [(k, (h1 : Int))] := by unfold piece; rw [if_pos rfl, Nat.zero_add]
        rw [e0, e1, show canon R1 0 = canon R 0 from t5] at hc
        have := (hc.map (·.1)).symm
        show ((R1.getD h1 Pl.no).key :: keysC (R1.set h1 _)).Perm _
        rw [hg]
        exact this
/-- A drop, by keys. -/
theorem drop_law {R : List Pl} (k : Int) : (k ∉ keysC R → dropR R k = R) ∧ (k ∈ keysC R → (k :: keysC (dropR R k)).Perm (keysC R)) ∧ (dropR R k).length = R.length := by
  have hat := atR_mem (R := R) (k := k)
  unfold dropR
  cases hk : atR R k with
  | none =>
    rw [hk] at hat
    exact ⟨fun _ => rfl, fun q => by simp [q] at hat, rfl⟩
  | some i =>
    rw [hk] at hat
    obtain ⟨x, hx, hf, hkx⟩ := atR_some hk
    refine ⟨fun q => by simp [q] at hat, fun _ => ?_, by simp⟩
    have hc := canon_set (n := 0) Pl.no hx
    have e0 : piece Pl.no (0 + i) = [] := rfl
    have e1 : piece x (0 + i) = [(k, (i : Int))] := by unfold piece; rw [if_pos hf, hkx, Nat.zero_add]
    rw [e0, e1] at hc
    exact (hc.map (·.1)).symm
/-- The keys that are there, as the law's map has them. -/
def Has (R : List Pl) (T : List Int) : Prop := T.Perm (keysC R)
theorem Has.mem {R : List Pl} {T : List Int} (h : Has R T) (k : Int) : k ∈ T ↔ k ∈ keysC R := h.mem_iff
theorem Has.len {R : List Pl} {T : List Int} (h : Has R T) : T.length = fulls R := by rw [h.length_eq, keysC_length]
/-- The other cache: keys that never come again, in order. -/
structure Line (n i : Nat) (R : List Pl) (h : Nat) : Prop where
  len : R.length = n
  pl : ∀ j, j < n → R[j]? = some (if i ≤ j then Pl.no else ⟨1000 + ((j + n * ((i - 1 - j) / n) : Nat) : Int), true, false⟩)
  hand : h = if i < n then 0 else i % n
theorem Line.new {n : Nat} : Line n 0 (List.replicate n Pl.no) 0 := ⟨by simp, fun j hj => by rw [List.getElem?_replicate_of_lt hj, if_pos (by omega)], by split <;> simp_all⟩
theorem div_pred {a n : Nat} (hn : 0 < n) (h1 : 1 ≤ a) (h : a % n ≠ 0) : (a - 1) / n = a / n := by
  have e := Nat.div_add_mod a n
  have hr := Nat.mod_lt a hn
  have e2 : a - 1 = n * (a / n) + (a % n - 1) := by omega
  have z : (a % n - 1) / n = 0 := Nat.div_eq_of_lt (by omega)
  rw [e2, Nat.mul_add_div hn, z, Nat.add_zero]
theorem line_key {n i j : Nat} (hn : 0 < n) (hj : j < n) (hi : ¬ i ≤ j) : j + n * ((i - 1 - j) / n) < i := by
  have := Nat.mul_div_le (i - 1 - j) n
  omega
theorem Line.use {n i : Nat} {R : List Pl} {h : Nat} (hL : Line n i R h) (hn : 0 < n) : ∃ R', useR R h (1000 + (i : Int)) = ⟨R', if i + 1 < n then 0 else (i + 1) % n, false, decide (n ≤ i), if n ≤ i then 1000 + ((i - n : Nat) : Int) else 0⟩ ∧ Line n (i + 1) R' (if i + 1 < n then 0 else (i + 1) % n) := by
  have hnone : atR R (1000 + (i : Int)) = none := by
    cases hk : atR R (1000 + (i : Int)) with
    | none => rfl
    | some j =>
      exfalso
      obtain ⟨x, hx, hf, hkx⟩ := atR_some hk
      have hj : j < n := by rw [← hL.len]; exact (List.getElem?_eq_some_iff.1 hx).1
      rw [hL.pl j hj] at hx
      obtain rfl := Option.some.inj hx
      by_cases q : i ≤ j
      · rw [if_pos q] at hf; cases hf
      · rw [if_neg q] at hkx
        have := line_key hn hj q
        have e : (1000 : Int) + ((j + n * ((i - 1 - j) / n) : Nat) : Int) = 1000 + (i : Int) := hkx
        omega
  by_cases hin : i < n
  · have hfree : freeR R = some i := by
      unfold freeR
      rw [List.findIdx?_eq_some_iff_getElem]
      have hlt : i < R.length := by rw [hL.len]; exact hin
      refine ⟨hlt, ?_, fun j hj => ?_⟩
      · have := hL.pl i hin
        rw [List.getElem?_eq_getElem hlt, if_pos (Nat.le_refl _)] at this
        rw [Option.some.inj this]; rfl
      · have := hL.pl j (by omega)
        rw [List.getElem?_eq_getElem (by omega), if_neg (by omega)] at this
        rw [Option.some.inj this]; simp
    refine ⟨R.set i ⟨1000 + (i : Int), true, false⟩, ?_, ?_⟩
    · unfold useR
      rw [hnone, hfree]
      have hd : decide (n ≤ i) = false := by simpa using hin
      simp only []
      rw [hd, hL.hand, if_pos hin, if_neg (show ¬ n ≤ i by omega)]
      by_cases q : i + 1 < n
      · rw [if_pos q]
      · rw [if_neg q, show i + 1 = n by omega, Nat.mod_self]
    · refine ⟨by rw [List.length_set]; exact hL.len, fun j hj => ?_, by split <;> rfl⟩
      by_cases e : i = j
      · subst e
        rw [List.getElem?_set_self (by rw [hL.len]; exact hin), if_neg (by omega), show i + 1 - 1 - i = 0 by omega, Nat.zero_div, Nat.mul_zero, Nat.add_zero]
      · rw [List.getElem?_set_ne e, hL.pl j hj]
        by_cases q : i ≤ j
        · rw [if_pos q, if_pos (by omega)]
        · rw [if_neg q, if_neg (by omega)]
          have a1 : (i - 1 - j) / n = 0 := Nat.div_eq_of_lt (by omega)
          have a2 : (i + 1 - 1 - j) / n = 0 := Nat.div_eq_of_lt (by omega)
          rw [a1, a2]
  · have hh : h = i % n := by rw [hL.hand, if_neg hin]
    have hhn : i % n < n := Nat.mod_lt _ hn
    have hdm := Nat.div_add_mod i n
    have hq1 : 1 ≤ i / n := (Nat.le_div_iff_mul_le hn).2 (by omega)
    have hall : ∀ x ∈ R, x.full = true := by
      intro x hx
      obtain ⟨j, hj⟩ := List.getElem?_of_mem hx
      have hjn : j < n := by rw [← hL.len]; exact (List.getElem?_eq_some_iff.1 hj).1
      rw [hL.pl j hjn, if_neg (by omega)] at hj
      rw [← Option.some.inj hj]
    have hfree : freeR R = none := by
      unfold freeR
      rw [List.findIdx?_eq_none_iff]
      intro x hx; rw [hall x hx]; rfl
    have hp : R[i % n]? = some ⟨1000 + ((i - n : Nat) : Int), true, false⟩ := by
      rw [hL.pl _ hhn, if_neg (by omega)]
      have e1 : (i - 1 - i % n) / n = i / n - 1 := by
        have e2 : i - 1 - i % n = n * (i / n - 1) + (n - 1) := by
          have : n * (i / n - 1) + n = n * (i / n) := by
            rw [← Nat.mul_succ]; congr 1; omega
          omega
        have z : (n - 1) / n = 0 := Nat.div_eq_of_lt (by omega)
        rw [e2, Nat.mul_add_div hn, z, Nat.add_zero]
      rw [e1]
      have e3 : i % n + n * (i / n - 1) = i - n := by
        have : n * (i / n - 1) + n = n * (i / n) := by
          rw [← Nat.mul_succ]; congr 1; omega
        omega
      rw [e3]
    have hsw : sweep R.length R h = (R, i % n) := by
      rw [hh, hL.len, show n = (n - 1) + 1 by omega]
      show (match R[i % (n - 1 + 1)]? with | some x => if x.mark = true then _ else (R, i % (n - 1 + 1)) | none => (R, i % (n - 1 + 1))) = _
      rw [show n - 1 + 1 = n by omega, hp]
      rfl
    refine ⟨R.set (i % n) ⟨1000 + (i : Int), true, false⟩, ?_, ?_⟩
    · unfold useR
      rw [hnone, hfree, hsw]
      have hd : decide (n ≤ i) = true := by simpa using (by omega : n ≤ i)
      have hg : R.getD (i % n) Pl.no = ⟨1000 + ((i - n : Nat) : Int), true, false⟩ := by rw [List.getD_eq_getElem?_getD, hp]; rfl
      simp only []
      rw [hd, hg, if_neg (show ¬ i + 1 < n by omega), if_pos (show n ≤ i by omega), hL.len, Nat.mod_add_mod]
    · refine ⟨by rw [List.length_set]; exact hL.len, fun j hj => ?_, rfl⟩
      by_cases e : i % n = j
      · subst e
        rw [List.getElem?_set_self (by rw [hL.len]; exact hhn), if_neg (by omega), show i + 1 - 1 - i % n = n * (i / n) by omega, Nat.mul_div_cancel_left _ hn, show i % n + n * (i / n) = i by omega]
      · rw [List.getElem?_set_ne e, hL.pl j hj, if_neg (by omega), if_neg (by omega)]
        have e2 : (i - 1 - j) / n = (i + 1 - 1 - j) / n := by
          rw [show i - 1 - j = (i - j) - 1 by omega, show i + 1 - 1 - j = i - j by omega]
          refine div_pred hn (by omega) fun q => e ?_
          have e3 := Nat.div_add_mod (i - j) n
          rw [q] at e3
          have e4 : i = j + n * ((i - j) / n) := by omega
          rw [e4, Nat.add_mul_mod_self_left, Nat.mod_eq_of_lt hj]
        rw [e2]
end Go.Proofs.Ytbjhpefnonnkmaa
