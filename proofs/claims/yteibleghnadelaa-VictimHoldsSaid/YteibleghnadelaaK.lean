/-
  The contracts of the reference's Same (entries and slots), Find and Fair.
-/
import Derived.Test.YteibleghnadelaaJ
namespace Go.Proofs.Yteibleghnadelaa
open Go.ChangeShapes Go.WideShapes Go.ChangeAt Go.RowKit
set_option linter.unusedVariables false

theorem take_ext {α : Type} {a b : List α} {m : Nat} (h : a.take m = b.take m) (h1 : m = a.length) (h2 : m = b.length) : a = b := by
  rw [List.take_of_length_le (by omega), List.take_of_length_le (by omega)] at h; exact h
theorem take_snoc {α : Type} {a b : List α} {m : Nat} {x : α} (h : a.take m = b.take m) (ha : a[m]? = some x) (hb : b[m]? = some x) : a.take (m + 1) = b.take (m + 1) := by
  rw [List.take_add_one, List.take_add_one, ha, hb, h]
theorem run_neq_ent (w : World) (a b : Int × Int) : (binOp .neq 34 (.agg #[.int .u32 a.1, .int .i64 a.2]) (.agg #[.int .u32 b.1, .int .i64 b.2])).run Try.prog w = .ok (.bool (!decide (a = b))) w := by
  have hp : Try.prog.stoodInHeld 34 = false := by kernel_rfl
  have ht : Try.prog.underlying 34 = some (.struct (Try.prog.fieldsOf 34)) := by kernel_rfl
  obtain ⟨a1, a2⟩ := a
  obtain ⟨b1, b2⟩ := b
  rw [run_neq_struct, show (10000 : Nat) = 9999 + 1 from rfl, run_equalIn_agg w 9999 34 _ _ ht hp]
  simp [Program.fieldsOf, Try.underlying34, go_sem]
  by_cases h1 : a1 = b1 <;> by_cases h2 : a2 = b2 <;> simp [h1, h2]
theorem same_slots {s1 s2 : Option Addr} {n1 c1 n2 c2 : Nat} {A B : List Int} {w : World} (hA : Slots w s1 A) (hB : Slots w s2 B) (h1 : A.length = n1) (h2 : B.length = n2) (h3 : n1 ≤ 1000) (h4 : n2 ≤ 1000) :
    Calls Try.prog 29 #[.slice s1 n1 c1, .slice s2 n2 c2] w fun e w' => e = .returned (.bool (decide (A = B))) ∧ Below w.heap.size w w' := by
  by_cases hn : n1 = n2
  · subst hn
    have H1 := Lib.hid h1
    have H2 := Lib.hid h2
    clear h1 h2
    go_enter Try.func29, Try.ntmps29
    go_wp2_with fail
    go_loopw [5] (fun x wr => ∃ j : Nat, j ≤ n1 ∧ x = .int .i64 (j : Nat) ∧ A.take j = B.take j ∧ Below w.heap.size w wr ∧ Slots wr s1 A ∧ Slots wr s2 B) (fun x _ => n1 + 1 - (intOf x).toNat)
    case atStart => exact ⟨0, by omega, rfl, by simp, Below.refl _ _, hA, hB⟩
    case round =>
      obtain ⟨j, hj, rfl, heq, bw, e1, e2⟩ := hrel
      have Heq := Lib.hid heq
      clear heq hA hB
      by_cases hjn : j < n1
      · obtain ⟨a, ha⟩ : ∃ a, A[j]? = some a := ⟨_, List.getElem?_eq_getElem (by rw [H1.out]; omega)⟩
        obtain ⟨a2, ha2⟩ : ∃ a2, B[j]? = some a2 := ⟨_, List.getElem?_eq_getElem (by rw [H2.out]; omega)⟩
        obtain ⟨g1, o1, rfl, _, p1⟩ := e1.get ha
        obtain ⟨g2, o2, rfl, _, p2⟩ := e2.get ha2
        have Ha := Lib.hid ha
        have Ha2 := Lib.hid ha2
        clear ha ha2
        by_cases hab : a = a2
        · subst hab
          go_upto_region 6 with fail
          go_region
          go_wp2_with fail
          go_roundw
          case rel => exact ⟨j + 1, by omega, by go_num, take_snoc Heq.out Ha.out Ha2.out, bw.drew, e1, e2⟩
          all_goals (simp [intOf]; omega)
        · have hne : decide (A = B) = false := decide_eq_false fun q => hab (by have := Ha.out; rw [q, Ha2.out] at this; simpa using this.symm)
          have hab2 : (a == a2) = false := beq_false_of_ne hab
          have Hne := Lib.hid hne
          clear hne
          go_upto_region 6 with fail
          go_region
          go_wp2_with fail
          go_ret
          exact ⟨by rw [Hne.out]; rfl, bw.drew⟩
      · obtain rfl : n1 = j := by omega
        have hne : decide (A = B) = true := decide_eq_true (take_ext Heq.out H1.out.symm H2.out.symm)
        have Hne := Lib.hid hne
        clear hne
        go_wp2_with fail
        go_ret
        exact ⟨by rw [Hne.out]; rfl, bw⟩
  · have hne : decide (A = B) = false := decide_eq_false fun q => hn (by rw [← h1, ← h2, q])
    have Hne := Lib.hid hne
    have hn2 : ¬ ((n1 : Int) = (n2 : Int)) := by omega
    clear hne h1 h2
    go_enter Try.func29, Try.ntmps29
    go_wp2_with fail
    go_ret
    exact ⟨by rw [Hne.out]; rfl, Below.refl _ _⟩
theorem same_slots2 {s1 s2 : Option Addr} {n1 c1 n2 c2 : Nat} {A B : List Int} {w : World} (hA : Slots w s1 A) (hB : Slots w s2 B) (h1 : A.length = n1) (h2 : B.length = n2) (h3 : n1 ≤ 1000) (h4 : n2 ≤ 1000) :
    Calls Try.prog 20 #[.slice s1 n1 c1, .slice s2 n2 c2] w fun e w' => e = .returned (.bool (decide (A = B))) ∧ Below w.heap.size w w' := by
  have C := same_slots (c1 := c1) (c2 := c2) hA hB h1 h2 h3 h4
  generalize decide (A = B) = b at *
  go_enter Try.func20, Try.ntmps20
  go_wp2_with (first | (go_at_call 29; refine C.mono ?_; clear C; rintro e w' ⟨rfl, b1⟩))
  go_ret
  exact ⟨rfl, b1⟩
theorem same_ents {s1 s2 : Option Addr} {n1 c1 n2 c2 : Nat} {A B : List (Int × Int)} {w : World} (hA : Ents w s1 A) (hB : Ents w s2 B) (h1 : A.length = n1) (h2 : B.length = n2) (h3 : n1 ≤ 1000) (h4 : n2 ≤ 1000) :
    Calls Try.prog 12 #[.slice s1 n1 c1, .slice s2 n2 c2] w fun e w' => e = .returned (.bool (decide (A = B))) ∧ Below w.heap.size w w' := by
  by_cases hn : n1 = n2
  · subst hn
    have H1 := Lib.hid h1
    have H2 := Lib.hid h2
    clear h1 h2
    go_enter Try.func12, Try.ntmps12
    go_wp2_with fail
    go_loopw [5] (fun x wr => ∃ j : Nat, j ≤ n1 ∧ x = .int .i64 (j : Nat) ∧ A.take j = B.take j ∧ Below w.heap.size w wr ∧ Ents wr s1 A ∧ Ents wr s2 B) (fun x _ => n1 + 1 - (intOf x).toNat)
    case atStart => exact ⟨0, by omega, rfl, by simp, Below.refl _ _, hA, hB⟩
    case round =>
      obtain ⟨j, hj, rfl, heq, bw, e1, e2⟩ := hrel
      have Heq := Lib.hid heq
      clear heq hA hB
      by_cases hjn : j < n1
      · obtain ⟨a, ha⟩ : ∃ a, A[j]? = some a := ⟨_, List.getElem?_eq_getElem (by rw [H1.out]; omega)⟩
        obtain ⟨a2, ha2⟩ : ∃ a2, B[j]? = some a2 := ⟨_, List.getElem?_eq_getElem (by rw [H2.out]; omega)⟩
        obtain ⟨g1, o1, rfl, _, p1, p1'⟩ := e1.get ha
        obtain ⟨g2, o2, rfl, _, p2, p2'⟩ := e2.get ha2
        have Ha := Lib.hid ha
        have Ha2 := Lib.hid ha2
        clear ha ha2
        by_cases hab : a = a2
        · subst hab
          have hq : ∀ W, (binOp .neq 34 (.agg #[.int .u32 a.1, .int .i64 a.2]) (.agg #[.int .u32 a.1, .int .i64 a.2])).run Try.prog W = .ok (.bool false) W := fun W => by rw [run_neq_ent]; simp
          go_upto_region 6 with fail
          go_region
          go_wp2_with fail
          go_roundw
          case rel => exact ⟨j + 1, by omega, by go_num, take_snoc Heq.out Ha.out Ha2.out, bw.drew, e1, e2⟩
          all_goals (simp [intOf]; omega)
        · have hne : decide (A = B) = false := decide_eq_false fun q => hab (by have := Ha.out; rw [q, Ha2.out] at this; simpa using this.symm)
          have hq : ∀ W, (binOp .neq 34 (.agg #[.int .u32 a.1, .int .i64 a.2]) (.agg #[.int .u32 a2.1, .int .i64 a2.2])).run Try.prog W = .ok (.bool true) W := fun W => by rw [run_neq_ent]; simp [hab]
          have Hne := Lib.hid hne
          clear hne
          go_upto_region 6 with fail
          go_region
          go_wp2_with fail
          go_ret
          exact ⟨by rw [Hne.out]; rfl, bw.drew⟩
      · obtain rfl : n1 = j := by omega
        have hne : decide (A = B) = true := decide_eq_true (take_ext Heq.out H1.out.symm H2.out.symm)
        have Hne := Lib.hid hne
        clear hne
        go_wp2_with fail
        go_ret
        exact ⟨by rw [Hne.out]; rfl, bw⟩
  · have hne : decide (A = B) = false := decide_eq_false fun q => hn (by rw [← h1, ← h2, q])
    have Hne := Lib.hid hne
    have hn2 : ¬ ((n1 : Int) = (n2 : Int)) := by omega
    clear hne h1 h2
    go_enter Try.func12, Try.ntmps12
    go_wp2_with fail
    go_ret
    exact ⟨by rw [Hne.out]; rfl, Below.refl _ _⟩
/-- Where a slot is. -/
theorem find_is {s : Option Addr} {n c : Nat} {A : List Int} {x : Int} {w : World} (hA : Slots w s A) (h1 : A.length = n) (h2 : n ≤ 1000) :
    Calls Try.prog 30 #[.slice s n c, .int .u32 x] w fun e w' => (∃ i : Int, e = .returned (.int .i64 i) ∧ decide (i < 0) = !decide (x ∈ A) ∧ -1 ≤ i ∧ i ≤ 1000) ∧ w = w' := by
  have H1 := Lib.hid h1
  clear h1
  go_enter Try.func30, Try.ntmps30
  go_wp2_with fail
  go_loopw [5] (fun y wr => ∃ j : Nat, j ≤ n ∧ y = .int .i64 (j : Nat) ∧ x ∉ A.take j ∧ w = wr) (fun y _ => n + 1 - (intOf y).toNat)
  case atStart => exact ⟨0, by omega, rfl, by simp, rfl⟩
  case round =>
    obtain ⟨j, hj, rfl, hno, rfl⟩ := hrel
    have Hno := Lib.hid hno
    clear hno
    by_cases hjn : j < n
    · obtain ⟨a, ha⟩ : ∃ a, A[j]? = some a := ⟨_, List.getElem?_eq_getElem (by rw [H1.out]; omega)⟩
      obtain ⟨g1, o1, rfl, _, p1⟩ := hA.get ha
      have Ha := Lib.hid ha
      clear ha
      by_cases hab : a = x
      · have hx : decide (x ∈ A) = true := decide_eq_true (by subst hab; exact List.mem_of_getElem? Ha.out)
        have Hx := Lib.hid hx
        clear hx
        go_wp2_with fail
        go_ret
        exact ⟨⟨_, rfl, by rw [Hx.out]; simp, by omega, by omega⟩, rfl⟩
      · have hab2 : (a == x) = false := beq_false_of_ne hab
        go_wp2_with fail
        go_roundw
        case rel => exact ⟨j + 1, by omega, by go_num, fun q => by
          rw [List.take_add_one, Ha.out] at q
          rcases List.mem_append.1 q with q | q
          · exact Hno.out q
          · simp at q; exact hab q.symm, trivial⟩
        all_goals (simp [intOf]; omega)
    · obtain rfl : n = j := by omega
      have hx : decide (x ∈ A) = false := decide_eq_false (fun q => Hno.out (by rw [List.take_of_length_le (by rw [H1.out]; omega)]; exact q))
      have Hx := Lib.hid hx
      clear hx
      go_wp2_with fail
      go_ret
      exact ⟨⟨_, rfl, by rw [Hx.out]; rfl, by omega, by omega⟩, rfl⟩
theorem fairE_is (x : Int × Int) (w : World) : Calls Try.prog 23 #[.int .u32 x.1, .int .i64 x.2] w fun e w' => e = .returned (.bool (decide (FairE x))) ∧ w = w' := by
  by_cases h1 : x.1 < 4194304
  · by_cases h2 : 0 ≤ x.2
    · by_cases h3 : x.2 ≤ 1099511627776
      · rw [decide_eq_true (show FairE x from ⟨h1, h2, h3⟩)]
        go_enter Try.func23, Try.ntmps23
        go_wp2_with fail
        go_ret
        exact ⟨rfl, rfl⟩
      · rw [decide_eq_false (fun q : FairE x => h3 q.2.2)]
        go_enter Try.func23, Try.ntmps23
        go_wp2_with fail
        go_ret
        exact ⟨rfl, rfl⟩
    · rw [decide_eq_false (fun q : FairE x => h2 q.2.1)]
      go_enter Try.func23, Try.ntmps23
      go_wp2_with fail
      go_ret
      exact ⟨rfl, rfl⟩
  · rw [decide_eq_false (fun q : FairE x => h1 q.1)]
    go_enter Try.func23, Try.ntmps23
    go_wp2_with fail
    go_ret
    exact ⟨rfl, rfl⟩
/-- Two slices of entries, one behind the other in a row of its own. -/
theorem both {s1 s2 : Option Addr} {n1 c1 n2 c2 : Nat} {L1 L2 : List (Int × Int)} {w : World} (hE1 : Ents w s1 L1) (hE2 : Ents w s2 L2) (h1 : L1.length = n1) (h2 : L2.length = n2) (h3 : n1 + n2 ≤ 500) :
    ∃ v2 w2 A c w3, (Builtin.append_ #[22, 22] 22 #[.slice none 0 0, .slice s1 n1 c1]).run Try.prog w = .ok v2 w2 ∧ (Builtin.append_ #[22, 22] 22 #[v2, .slice s2 n2 c2]).run Try.prog w2 = .ok (.slice A (n1 + n2) c) w3 ∧
      w3.ownsRow w.heap.size 34 2 (.slice A (n1 + n2) c) (n1 + n2) (entsL (L1 ++ L2)) ∧ Below w.heap.size w w3 := by
  obtain ⟨v2, w2, r2, o2, g2, _⟩ := app_ents (c := c1) (n := 0) (L := []) (World.ownsRow_nil w w.heap.size 34 2) h1 hE1 (Nat.le_refl _) (by omega) 22
  have b2 := Below.grown (Below.refl w.heap.size w) g2 (by simp [Value.ownBlock]) (Nat.le_refl _)
  obtain ⟨v3, w3, r3, o3, g3, _⟩ := app_ents (c := c2) o2 h2 (hE2.below b2 (Nat.le_refl _)) b2.size (by omega) 22
  have b3 := Below.grown b2 g3 (own_block o2) b2.size
  rw [Nat.zero_add] at o3
  obtain ⟨A, c, rfl⟩ := own_shape o3
  exact ⟨v2, w2, A, c, w3, r2, r3, by simpa using o3, b3⟩
end Go.Proofs.Yteibleghnadelaa
