/-
  The plain law of second chance with a hand: what Use and Drop do, and which keys the map has.
-/
import Derived.Test.YtbjhpefnonnkmaaA
namespace Go.Proofs.Ytbjhpefnonnkmaa
open Go.ChangeShapes Go.WideShapes Go.ChangeAt Go.RowKit
set_option linter.unusedVariables false

/-- The keys of a ring with their places. -/
def piece (x : Pl) (n : Nat) : List (Int × Int) := if x.full = true then [(x.key, (n : Int))] else []
def canon : List Pl → Nat → List (Int × Int)
  | [], _ => []
  | x :: R, n => piece x n ++ canon R (n + 1)
theorem canon_set {x : Pl} (y : Pl) : ∀ {R : List Pl} {i n : Nat}, R[i]? = some x → (piece y (n + i) ++ canon R n).Perm (piece x (n + i) ++ canon (R.set i y) n)
  | [], _, _, h => by simp at h
  | z :: R, 0, n, h => by
    obtain rfl : z = x := by simpa using h
    show (piece y n ++ (piece z n ++ canon R (n + 1))).Perm (piece z n ++ (piece y n ++ canon R (n + 1)))
    rw [← List.append_assoc, ← List.append_assoc]
    exact List.Perm.append_right _ List.perm_append_comm
  | z :: R, i + 1, n, h => by
    have ih := canon_set (x := x) y (R := R) (i := i) (n := n + 1) (by simpa using h)
    rw [show n + 1 + i = n + (i + 1) by omega] at ih
    show (piece y (n + (i + 1)) ++ (piece z n ++ canon R (n + 1))).Perm (piece x (n + (i + 1)) ++ (piece z n ++ canon (R.set i y) (n + 1)))
    refine (List.perm_append_comm_assoc _ _ _).trans ((List.Perm.append_left _ ih).trans (List.perm_append_comm_assoc _ _ _))
theorem mem_canon {k i : Int} : ∀ {R : List Pl} {n : Nat}, (k, i) ∈ canon R n ↔ ∃ j x, R[j]? = some x ∧ x.full = true ∧ x.key = k ∧ i = ((n + j : Nat) : Int)
  | [], n => by simp [canon]
  | z :: R, n => by
    have ih := mem_canon (k := k) (i := i) (R := R) (n := n + 1)
    show (k, i) ∈ piece z n ++ canon R (n + 1) ↔ _
    rw [List.mem_append, ih]
    constructor
    · rintro (h | ⟨j, x, h1, h2, h3, h4⟩)
      · unfold piece at h
        split at h
        · next hf =>
          obtain ⟨rfl, rfl⟩ : k = z.key ∧ i = (n : Int) := by simpa using h
          exact ⟨0, z, rfl, hf, rfl, rfl⟩
        · cases h
      · exact ⟨j + 1, x, h1, h2, h3, by rw [h4]; congr 1; omega⟩
    · rintro ⟨j, x, h1, h2, h3, h4⟩
      cases j with
      | zero =>
        obtain rfl : z = x := by simpa using h1
        left; unfold piece; rw [if_pos h2, h4, h3]; simp
      | succ j => exact .inr ⟨j, x, by simpa using h1, h2, h3, by rw [h4]; congr 1; omega⟩
def fulls (R : List Pl) : Nat := R.countP (·.full)
theorem canon_length : ∀ (R : List Pl) (n : Nat), (canon R n).length = fulls R
  | [], _ => rfl
  | z :: R, n => by
    show (piece z n ++ canon R (n + 1)).length = (z :: R).countP (·.full)
    rw [List.length_append, canon_length R (n + 1), List.countP_cons]
    unfold piece fulls
    split <;> simp_all <;> omega

/-- The place of a key; a free place. -/
def atR (R : List Pl) (k : Int) : Option Nat := R.findIdx? fun x => x.full && decide (x.key = k)
def freeR (R : List Pl) : Option Nat := R.findIdx? fun x => !x.full
/-- The keys of the places are different ones. -/
def Apart (R : List Pl) : Prop := ((canon R 0).map (·.1)).Nodup
theorem Apart.one {R : List Pl} (h : Apart R) {i j : Nat} {x y : Pl} (hx : R[i]? = some x) (hy : R[j]? = some y) (fx : x.full = true) (fy : y.full = true) (hk : x.key = y.key) : i = j := by
  have mx : (x.key, ((0 + i : Nat) : Int)) ∈ canon R 0 := mem_canon.2 ⟨i, x, hx, fx, rfl, rfl⟩
  have my : (y.key, ((0 + j : Nat) : Int)) ∈ canon R 0 := mem_canon.2 ⟨j, y, hy, fy, rfl, rfl⟩
  unfold Apart at h
  rw [List.nodup_iff_pairwise_ne, List.pairwise_map] at h
  have := List.Pairwise.forall_of_forall_of_flip (R := fun a b : Int × Int => a.1 = b.1 → a = b) (l := canon R 0) (by intro x _ _; rfl) (h.imp fun {a b} hab e => absurd e hab) (h.imp fun {a b} hab e => absurd e.symm hab)
  have e := this mx my hk
  have : ((0 + i : Nat) : Int) = ((0 + j : Nat) : Int) := congrArg (·.2) e
  omega
theorem atR_some {R : List Pl} {k : Int} {i : Nat} (h : atR R k = some i) : ∃ x, R[i]? = some x ∧ x.full = true ∧ x.key = k := by
  obtain ⟨hi, h1, _⟩ := List.findIdx?_eq_some_iff_getElem.1 h
  exact ⟨R[i], List.getElem?_eq_getElem hi, by simpa using h1⟩
theorem atR_none {R : List Pl} {k : Int} (h : atR R k = none) {i : Nat} {x : Pl} (hx : R[i]? = some x) (hf : x.full = true) : x.key ≠ k := by
  have := List.findIdx?_eq_none_iff.1 h x (List.mem_of_getElem? hx)
  simpa [hf] using this
theorem atR_of {R : List Pl} (hA : Apart R) {k : Int} {i : Nat} {x : Pl} (hx : R[i]? = some x) (hf : x.full = true) (hk : x.key = k) : atR R k = some i := by
  cases h : atR R k with
  | none => exact absurd hk (atR_none h hx hf)
  | some j =>
    obtain ⟨y, hy, fy, ky⟩ := atR_some h
    rw [hA.one hy hx fy hf (ky.trans hk.symm)]
/-- The map of a ring. -/
structure MapOk (R : List Pl) (L : List (Int × Int)) : Prop where
  apart : Apart R
  perm : L.Perm (canon R 0)
theorem MapOk.length {R : List Pl} {L : List (Int × Int)} (h : MapOk R L) : L.length = fulls R := by rw [h.perm.length_eq, canon_length]
theorem lookL_none {k : Int} : ∀ {L : List (Int × Int)} {n : Nat}, lookL k L n = none ↔ ∀ q ∈ L, q.1 ≠ k
  | [], n => by simp [lookL]
  | q :: L, n => by
    unfold lookL
    by_cases h : k = q.1
    · simp [h]
    · rw [if_neg h, lookL_none]
      constructor
      · intro g x hx
        rcases List.mem_cons.1 hx with rfl | hx
        · exact Ne.symm h
        · exact g x hx
      · intro g x hx; exact g x (List.mem_cons_of_mem _ hx)
theorem lookL_some {k : Int} : ∀ {L : List (Int × Int)} {n j : Nat} {v : Int}, lookL k L n = some (j, v) → n ≤ j ∧ L[j - n]? = some (k, v)
  | [], n, j, v, h => by simp [lookL] at h
  | q :: L, n, j, v, h => by
    unfold lookL at h
    by_cases hq : k = q.1
    · rw [if_pos hq] at h
      obtain ⟨rfl, rfl⟩ : n = j ∧ q.2 = v := by simpa using h
      exact ⟨Nat.le_refl _, by simp [hq]⟩
    · rw [if_neg hq] at h
      obtain ⟨h1, h2⟩ := lookL_some h
      refine ⟨by omega, ?_⟩
      rw [show j - n = (j - (n + 1)) + 1 by omega]; simpa using h2
theorem MapOk.look {R : List Pl} {L : List (Int × Int)} (h : MapOk R L) (k : Int) : (∀ i, atR R k = some i → ∃ j, lookL k L 0 = some (j, (i : Int))) ∧ (atR R k = none → lookL k L 0 = none) := by
  constructor
  · intro i hi
    obtain ⟨x, hx, hf, hk⟩ := atR_some hi
    have hm : (k, (i : Int)) ∈ L := h.perm.mem_iff.2 (mem_canon.2 ⟨i, x, hx, hf, hk, by simp⟩)
    cases hl : lookL k L 0 with
    | none => exact absurd rfl (lookL_none.1 hl _ hm)
    | some q =>
      obtain ⟨_, h2⟩ := lookL_some (j := q.1) (v := q.2) hl
      obtain ⟨j, y, hy, fy, ky, e⟩ := mem_canon.1 (h.perm.mem_iff.1 (List.mem_of_getElem? h2))
      have := h.apart.one hx hy hf fy (hk.trans ky.symm)
      subst this
      exact ⟨q.1, by rw [show q = (q.1, q.2) from rfl, e]; simp⟩
  · intro hn
    rw [lookL_none]
    rintro ⟨a, b⟩ hq rfl
    obtain ⟨j, y, hy, fy, ky, e⟩ := mem_canon.1 (h.perm.mem_iff.1 hq)
    exact atR_none hn hy fy ky
theorem perm_erase {α : Type} : ∀ {L : List α} {j : Nat} {a : α}, L[j]? = some a → L.Perm (a :: L.eraseIdx j)
  | [], _, _, h => by simp at h
  | b :: L, 0, a, h => by obtain rfl : b = a := by simpa using h
                          exact List.Perm.refl _
  | b :: L, j + 1, a, h => ((perm_erase (L := L) (by simpa using h)).cons b).trans (List.Perm.swap a b _)
theorem delL_perm {k v : Int} {L : List (Int × Int)} {j : Nat} (h : lookL k L 0 = some (j, v)) : L.Perm ((k, v) :: delL k L) := by
  obtain ⟨_, h2⟩ := lookL_some h
  have : delL k L = L.eraseIdx j := by unfold delL; rw [h]
  rw [this]
  rw [Nat.sub_zero] at h2
  exact perm_erase h2
theorem apart_of_perm {R R' : List Pl} {k i : Int} (h : Apart R) (hp : ((k, i) :: canon R' 0).Perm (canon R 0)) : Apart R' := by
  unfold Apart at *
  have := (hp.map (·.1)).nodup_iff.2 h
  exact (List.nodup_cons.1 this).2
/-- A key leaves its place. -/
theorem MapOk.del {R : List Pl} {L : List (Int × Int)} (h : MapOk R L) {k : Int} {i : Nat} (hi : atR R k = some i) : MapOk (R.set i Pl.no) (delL k L) := by
  obtain ⟨x, hx, hf, hk⟩ := atR_some hi
  obtain ⟨j, hl⟩ := (h.look k).1 i hi
  have hc := canon_set (n := 0) Pl.no hx
  have e0 : piece Pl.no (0 + i) = [] := rfl
  have e1 : piece x (0 + i) = [(k, (i : Int))] := by unfold piece; rw [if_pos hf, hk, Nat.zero_add]
  rw [e0, e1] at hc
  refine ⟨apart_of_perm h.apart hc.symm, ?_⟩
  have := (delL_perm hl).symm.trans (h.perm.trans hc)
  exact (List.perm_cons _).1 this
/-- A key comes to a free place. -/
theorem MapOk.put {R : List Pl} {L : List (Int × Int)} (h : MapOk R L) {k : Int} {i : Nat} {x : Pl} (hn : atR R k = none) (hx : R[i]? = some x) (hf : x.full = false) (m : Bool) : MapOk (R.set i ⟨k, true, m⟩) (L ++ [(k, (i : Int))]) := by
  have hc := canon_set (n := 0) ⟨k, true, m⟩ hx
  have e0 : piece x (0 + i) = [] := by unfold piece; rw [if_neg (by rw [hf]; decide)]
  have e1 : piece ⟨k, true, m⟩ (0 + i) = [(k, (i : Int))] := by unfold piece; rw [if_pos rfl, Nat.zero_add]
  rw [e0, e1] at hc
  refine ⟨?_, ?_⟩
  · unfold Apart
    refine (hc.map (·.1)).nodup_iff.1 ?_
    show (k :: (canon R 0).map (·.1)).Nodup
    refine List.nodup_cons.2 ⟨?_, h.apart⟩
    intro hm
    obtain ⟨⟨a, b⟩, hq, rfl⟩ := List.mem_map.1 hm
    obtain ⟨j, y, hy, fy, ky, e⟩ := mem_canon.1 hq
    exact atR_none hn hy fy ky
  · exact (List.perm_append_comm.trans (List.Perm.append_left [(k, (i : Int))] h.perm)).trans hc
theorem canon_mark : ∀ {R : List Pl} {i n : Nat} {x : Pl} (b : Bool), R[i]? = some x → canon (R.set i ⟨x.key, x.full, b⟩) n = canon R n
  | [], _, _, _, _, h => by simp at h
  | z :: R, 0, n, x, b, h => by obtain rfl : z = x := by simpa using h
                                rfl
  | z :: R, i + 1, n, x, b, h => by
    show piece z n ++ canon (R.set i _) (n + 1) = _
    rw [canon_mark b (by simpa using h)]; rfl
theorem MapOk.mark {R : List Pl} {L : List (Int × Int)} (h : MapOk R L) {i : Nat} {x : Pl} (hx : R[i]? = some x) (b : Bool) : MapOk (R.set i ⟨x.key, x.full, b⟩) L := by
  refine ⟨?_, ?_⟩
  · unfold Apart; rw [canon_mark b hx]; exact h.apart
  · rw [canon_mark b hx]; exact h.perm
theorem fulls_le (R : List Pl) : fulls R ≤ R.length := List.countP_le_length
theorem free_iff {R : List Pl} : fulls R < R.length ↔ freeR R ≠ none := by
  unfold fulls freeR
  rw [Ne, List.findIdx?_eq_none_iff]
  constructor
  · intro h hall
    have : R.countP (·.full) = R.length := List.countP_eq_length.2 fun x hx => by simpa using hall x hx
    omega
  · intro h
    have h1 := fulls_le R
    unfold fulls at h1
    refine Nat.lt_of_le_of_ne h1 fun e => h ?_
    intro x hx
    have := List.countP_eq_length.1 e x hx
    simpa using this
theorem freeR_some {R : List Pl} {i : Nat} (h : freeR R = some i) : ∃ x, R[i]? = some x ∧ x.full = false := by
  obtain ⟨hi, h1, _⟩ := List.findIdx?_eq_some_iff_getElem.1 h
  exact ⟨R[i], List.getElem?_eq_getElem hi, by simpa using h1⟩

/-- The hand goes on until a place is not marked. -/
def sweep : Nat → List Pl → Nat → List Pl × Nat
  | 0, R, h => (R, h)
  | f + 1, R, h => match R[h]? with
    | some x => if x.mark = true then sweep f (R.set h ⟨x.key, x.full, false⟩) ((h + 1) % R.length) else (R, h)
    | none => (R, h)
def marks (R : List Pl) : Nat := R.countP (·.mark)
theorem marks_unmark : ∀ {R : List Pl} {i : Nat} {x : Pl}, R[i]? = some x → x.mark = true → marks (R.set i ⟨x.key, x.full, false⟩) + 1 = marks R
  | [], _, _, h, _ => by simp at h
  | z :: R, 0, x, h, hm => by
    obtain rfl : z = x := by simpa using h
    unfold marks; simp [hm]
  | z :: R, i + 1, x, h, hm => by
    have := marks_unmark (R := R) (i := i) (by simpa using h) hm
    unfold marks at *; simp only [List.set_cons_succ, List.countP_cons]; omega
/-- What a request does: the turn is hit, left, out. -/
structure Out where
  R : List Pl
  h : Nat
  hit : Bool
  left : Bool
  out : Int
def useR (R : List Pl) (h : Nat) (k : Int) : Out :=
  match atR R k with
  | some i => ⟨R.modify i fun x => ⟨x.key, x.full, true⟩, h, true, false, 0⟩
  | none => match freeR R with
    | some i => ⟨R.set i ⟨k, true, false⟩, h, false, false, 0⟩
    | none => ⟨(sweep R.length R h).1.set (sweep R.length R h).2 ⟨k, true, false⟩, ((sweep R.length R h).2 + 1) % R.length, false, true, ((sweep R.length R h).1.getD (sweep R.length R h).2 Pl.no).key⟩
def dropR (R : List Pl) (k : Int) : List Pl := match atR R k with | some i => R.set i Pl.no | none => R
/-- What holds of a cache at all times. -/
structure Good (R : List Pl) (h : Nat) : Prop where
  pos : 0 < R.length
  most : R.length ≤ 1024
  hand : h < R.length
  apart : Apart R
theorem sweep_length : ∀ (f : Nat) (R : List Pl) (h : Nat), (sweep f R h).1.length = R.length
  | 0, _, _ => rfl
  | f + 1, R, h => by
    unfold sweep
    split
    · split
      · rw [sweep_length]; simp
      · rfl
    · rfl
theorem sweep_hand : ∀ (f : Nat) (R : List Pl) (h : Nat), h < R.length → (sweep f R h).2 < R.length
  | 0, _, _, hh => hh
  | f + 1, R, h, hh => by
    unfold sweep
    split
    · split
      · have := sweep_hand f (R.set h ⟨‹Pl›.key, ‹Pl›.full, false⟩) ((h + 1) % R.length) (by simpa using Nat.mod_lt _ (by omega))
        simpa using this
      · exact hh
    · exact hh
end Go.Proofs.Ytbjhpefnonnkmaa
