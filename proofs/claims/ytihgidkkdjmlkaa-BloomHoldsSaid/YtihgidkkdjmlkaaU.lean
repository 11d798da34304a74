/-
  A slice of calls (structs of an integer and a string) that came in; few; filters, boxes and a call.
-/
import Derived.Test.YtihgidkkdjmlkaaS
import Derived.Deep.Slices
namespace Go.Proofs.Ytihgidkkdjmlkaa
open Go.ChangeShapes Go.WideShapes Go.ChangeAt Go.RowKit
set_option linter.unusedVariables false

/-- A slice of calls. -/
def IsActs (w : World) (s : Option Addr) (len : Nat) (f : Nat → Int) (g : Nat → ByteArray) : Prop :=
  0 < len → ∃ b off, s = some ⟨b, off, none⟩ ∧ b < w.heap.size ∧ ∀ i, i < len → w.cell? ⟨b, off + i * 2, none⟩ = some (.int .i64 (f i)) ∧ w.cell? ⟨b, off + i * 2 + 1, none⟩ = some (.string (g i))
theorem IsActs.below {w W : World} {s : Option Addr} {len : Nat} {f : Nat → Int} {g : Nat → ByteArray} (h : IsActs w s len f g) (b : Below w.heap.size w W) : IsActs W s len f g := by
  intro hp
  obtain ⟨B, off, e, hb, hc⟩ := h hp
  exact ⟨B, off, e, Nat.lt_of_lt_of_le hb b.size, fun i hi => ⟨(b.cell (p := ⟨B, off + i * 2, none⟩) hb).trans (hc i hi).1, (b.cell (p := ⟨B, off + i * 2 + 1, none⟩) hb).trans (hc i hi).2⟩⟩
set_option maxRecDepth 100000 in
theorem few_is (most : Nat) (hmost : most ≤ 60) {w : World} {s : Option Addr} {len cap : Nat} {f : Nat → Int} {g : Nat → ByteArray} (h : IsActs w s len f g) (hl : len ≤ maxLen) :
    Calls Try.prog 21 #[.slice s len cap, .int .i64 (most : Nat)] w fun e w' => ∃ b : Bool, e = .returned (.bool b) ∧ (b = true → len ≤ most ∧ ∀ i, i < len → (g i).size ≤ 300) ∧ w = w' := by
  unfold maxLen at hl
  by_cases h60 : most < len
  · go_enter Try.func21, Try.ntmps21
    go_wp2_with fail
    go_ret
    exact ⟨false, rfl, (fun h => by cases h), rfl⟩
  · have h60' : len ≤ most := by omega
    clear hl
    go_enter Try.func21, Try.ntmps21
    go_wp2_with fail
    go_loopw [5] (fun v wr => ∃ k : Nat, k ≤ len ∧ v = .int .i64 (k : Nat) ∧ wr = w ∧ ∀ i, i < k → (g i).size ≤ 300) (fun v _ => len + 1 - (intOf v).toNat)
    case atStart => exact ⟨0, by omega, rfl, rfl, fun i hi => by omega⟩
    case round =>
      obtain ⟨k, hk, rfl, rfl, hs⟩ := hrel
      by_cases hkl : k < len
      · obtain ⟨b, off, rfl, hb, hc⟩ := h (by omega)
        have c1 := (hc k hkl).2
        by_cases h3 : 300 < (g k).size
        · clear hs
          go_wp2_with fail
          go_ret
          exact ⟨false, rfl, (fun h => by cases h), rfl⟩
        · have hs2 : ∀ i, i < k + 1 → (g i).size ≤ 300 := fun i hi => by
            by_cases e : i = k
            · subst e; omega
            · exact hs i (by omega)
          clear hs
          have hs3 := Lib.hid hs2
          clear hs2
          go_wp2_with fail
          go_roundw
          case rel => exact ⟨k + 1, by omega, by go_num, by simp, hs3.out⟩
          all_goals (simp [intOf]; omega)
      · obtain rfl : k = len := by omega
        have hs3 := Lib.hid hs
        clear hs
        go_wp2_with fail
        go_ret
        exact ⟨true, rfl, (fun _ => ⟨h60', hs3.out⟩), by simp⟩
theorem lt_of_cell {w : World} {p : Addr} {v : Value} (h : w.cell? p = some v) : p.block < w.heap.size := by
  apply Decidable.byContradiction
  intro hn
  have hnone : w.heap[p.block]? = none := Array.getElem?_eq_none (Nat.le_of_not_lt hn)
  unfold World.cell? at h
  rw [hnone] at h
  cases h
theorem int_string {H : Type} {enc : TypeId × Value → H} {w : World} {base : Nat} {spare : Nat → Bool} {held : Bool} {n : Nat} {cs : List Value} {x : DataW H × List MemPlace}
    (h : DataW.trod enc Try.prog w base spare held n 50 cs = some x) : ∃ y z, cs = [.int .i64 y, .string z] := by
  obtain ⟨ys, m, hn, hx, hlen, hys, hf⟩ := DataW.trod_struct Try.underlying50 h
  have hlen2 : cs.length = 2 := hlen.trans (by kernel_rfl)
  obtain ⟨v0, v1, rfl⟩ : ∃ v0 v1, cs = [v0, v1] := by
    match cs, hlen2 with
    | [v0, v1], _ => exact ⟨v0, v1, rfl⟩
  have c3 : Try.prog.cellsOf 3 = 1 := by kernel_rfl
  have c9 : Try.prog.cellsOf 9 = 1 := by kernel_rfl
  have hys2 : ys.length = 2 := hys
  have g0 : DataW.trod enc Try.prog w base spare held m 3 (([v0, v1].drop 0).take (Try.prog.cellsOf 3)) = ys[0]? := hf 0 _ rfl
  rw [c3, List.getElem?_eq_getElem (by omega)] at g0
  have g1 : DataW.trod enc Try.prog w base spare held m 9 (([v0, v1].drop 1).take (Try.prog.cellsOf 9)) = ys[1]? := hf 1 _ rfl
  rw [c9, List.getElem?_eq_getElem (by omega)] at g1
  obtain ⟨y, hy, _⟩ := DataW.trod_int Try.underlying3 g0
  obtain ⟨z, hz, _⟩ := DataW.trod_string Try.underlying9 g1
  simp at hy hz
  exact ⟨y, z, by rw [hy, hz]⟩
theorem open_acts {H : Type} {enc : TypeId × Value → H} {w : World} {base : Nat} {spare : Nat → Bool} {held : Bool} {fuel : Nat} {s : Option Addr} {len cap : Nat} {x : DataW H × List MemPlace}
    (h : DataW.trod enc Try.prog w base spare held fuel 47 [.slice s len cap] = some x) : ∃ f g, len ≤ maxLen ∧ IsActs w s len f g := by
  rcases Go.Deep.open_slice Try.underlying47 h with ⟨hcs, _⟩ | ⟨a, l, c, m, n, D, Pl, hcs, hb, hl, hm, hmm, hx, hi⟩
  · simp at hcs
    obtain ⟨rfl, rfl, rfl⟩ := hcs
    exact ⟨fun _ => 0, fun _ => ByteArray.empty, by unfold maxLen; omega, fun h => absurd h (by omega)⟩
  · simp at hcs
    obtain ⟨rfl, rfl, rfl⟩ := hcs
    have c50 : Try.prog.cellsOf 50 = 2 := by kernel_rfl
    have hlm : len ≤ m := by rw [hmm]; split <;> omega
    obtain ⟨b, off, spot⟩ := a
    have hcell : ∀ i, i < len → ∃ y z, w.cell? (((⟨b, off, spot⟩ : Addr).add (i * 2)).add 0) = some (.int .i64 y) ∧ w.cell? (((⟨b, off, spot⟩ : Addr).add (i * 2)).add 1) = some (.string z) := by
      intro i hil
      obtain ⟨cs', hc, ht⟩ := hi i (by omega)
      rw [c50] at hc
      obtain ⟨_, _, hat⟩ := World.cells?_some hc
      obtain ⟨y, z, rfl⟩ := int_string ht
      exact ⟨y, z, (hat 0 (by omega)).trans rfl, (hat 1 (by omega)).trans rfl⟩
    by_cases hpos : 0 < len
    · obtain ⟨y, z, hy, hz⟩ := hcell 0 hpos
      have hz' : w.cell? ⟨b, off, spot⟩ = some (.int .i64 y) := by simpa [Addr.add] using hy
      have hspot : spot = none := by simpa using World.cell?_spot hz'
      subst hspot
      have hall : ∀ i, i < len → ∃ q : Int × ByteArray, w.cell? ⟨b, off + i * 2, none⟩ = some (.int .i64 q.1) ∧ w.cell? ⟨b, off + i * 2 + 1, none⟩ = some (.string q.2) := by
        intro i hil
        obtain ⟨y, z, hy, hz⟩ := hcell i hil
        have e0 : ((⟨b, off, none⟩ : Addr).add (i * 2)).add 0 = ⟨b, off + i * 2, none⟩ := by
          by_cases h1 : i * 2 = 0 <;> simp [Addr.add, h1] <;> omega
        have e1 : ((⟨b, off, none⟩ : Addr).add (i * 2)).add 1 = ⟨b, off + i * 2 + 1, none⟩ := by
          by_cases h1 : i * 2 = 0 <;> simp [Addr.add, h1] <;> omega
        exact ⟨(y, z), by rw [← e0]; exact hy, by rw [← e1]; exact hz⟩
      refine ⟨fun i => if h : i < len then (hall i h).choose.1 else 0, fun i => if h : i < len then (hall i h).choose.2 else ByteArray.empty, by omega, fun _ => ⟨b, off, rfl, lt_of_cell hz', fun i hil => ?_⟩⟩
      show w.cell? _ = some (Value.int .i64 (if h : i < len then (hall i h).choose.1 else 0)) ∧ w.cell? _ = some (Value.string (if h : i < len then (hall i h).choose.2 else ByteArray.empty))
      rw [dif_pos hil, dif_pos hil]
      exact (hall i hil).choose_spec
    · exact ⟨fun _ => 0, fun _ => ByteArray.empty, by omega, fun h => absurd h hpos⟩
theorem acts_at {w W : World} {s : Option Addr} {len : Nat} {f : Nat → Int} {g : Nat → ByteArray} (h : IsActs w s len f g) (b : Below w.heap.size w W) {k : Nat} (hk : k < len) : ∃ bb off, s = some ⟨bb, off, none⟩ ∧ W.cell? ⟨bb, off + k * 2, none⟩ = some (.int .i64 (f k)) ∧ W.cell? ⟨bb, off + k * 2 + 1, none⟩ = some (.string (g k)) := by
  obtain ⟨B, off, e, hb, hc⟩ := (h.below b) (by omega)
  exact ⟨B, off, e, (hc k hk).1, (hc k hk).2⟩
/-- Filters, boxes and a call. -/
structure Sx (w : World) (bs : List Bx) (fs : List Fl) (A : Nat) (x : Int) (key : ByteArray) (W : World) : Prop where
  st : St w bs fs W
  act : W.heap[A]? = some (.cells #[.int .i64 x, .string key] 50 (0, 0))
section
variable {w W V : World} {bs : List Bx} {fs : List Fl} {i j A : Nat} {x : Int} {key : ByteArray} {a : Bx} {f : Fl} {M : Bl}
theorem Sx.step (z : Sx w bs fs A x key W) (k : Below W.heap.size W V) : Sx w bs fs A x key V := ⟨z.st.step k, (k.block _ (lt_of_heap z.act)).trans z.act⟩
theorem Sx.alloc (z : Sx w bs fs A x key W) (o : Obj) : Sx w bs fs A x key (W.alloc o) := z.step ((Below.refl _ _).alloc (Nat.le_refl _) _)
theorem Sx.start (z : St w bs fs W) (x : Int) (key : ByteArray) : Sx w bs fs W.heap.size x key (W.alloc (.cells #[.int .i64 x, .string key] 50)) := ⟨z.alloc _, heap_new rfl⟩
theorem Sx.put (z : Sx w bs fs A x key W) (h : fs[i]? = some f) (k : Keeps [f.g] W V) (s : IsBl V f.p f.g f.q M) : Sx w bs (fs.set i ⟨f.p, f.g, f.q, M⟩) A x key V := by
  obtain ⟨cf, of⟩ := (z.st.get h).row_obj
  exact ⟨z.st.put h k s, k.at z.act (by simpa using ne_type z.act of (by decide))⟩
theorem Sx.newBox (z : Sx w bs fs A x key W) (s : Bools W a.r a.K.n a.c a.K.b) (hR : a.R = W.heap.size) : Sx w (a :: bs) fs A x key (W.alloc (.cells #[.int .i64 (a.K.h : Nat), .int .u64 a.K.seed, .slice (some ⟨a.r, 0, none⟩) a.K.n a.c] 25)) :=
  ⟨z.st.newBox s hR, heap_alloc z.act _⟩
theorem Sx.newFil (z : Sx w bs fs A x key W) (k : Below W.heap.size W V) (h1 : W.heap.size ≤ f.g) (s : IsBl V f.p f.g f.q f.K) : Sx w bs (f :: fs) A x key V := ⟨z.st.newFil k h1 s, (k.block _ (lt_of_heap z.act)).trans z.act⟩
theorem Sx.store {b : Bx} {r c : Nat} (z : Sx w bs fs A x key W) (h : bs[i]? = some b) (hn : M.n = b.K.n) (s : Bools W r M.n c M.b) : Sx w (bs.set i ⟨b.R, r, c, M⟩) fs A x key (((W.setCell ⟨b.R, 0, none⟩ (.int .i64 (M.h : Nat))).setCell ⟨b.R, 1, none⟩ (.int .u64 M.seed)).setCell ⟨b.R, 2, none⟩ (.slice (some ⟨r, 0, none⟩) M.n c)) := by
  have hne := ne_type z.act (z.st.box b (List.mem_of_getElem? h)).1 (by decide)
  exact ⟨z.st.store h hn s, heap_other (heap_other (heap_other z.act hne _) hne _) hne _⟩
theorem St.less {bs' : List Bx} {fs' : List Fl} (z : St w bs fs W) (h1 : bs'.Sublist bs) (h2 : fs'.Sublist fs) : St w bs' fs' W :=
  ⟨z.bel, fun b hb => z.box b (h1.subset hb), fun f hf => z.fil f (h2.subset hf), z.apb.sublist h1, z.apf.sublist h2⟩
theorem Sx.less {bs' : List Bx} {fs' : List Fl} (z : Sx w bs fs A x key W) (h1 : bs'.Sublist bs) (h2 : fs'.Sublist fs) : Sx w bs' fs' A x key W := ⟨z.st.less h1 h2, z.act⟩
theorem Sx.act0 (z : Sx w bs fs A x key W) : W.cell? ⟨A, 0, none⟩ = some (.int .i64 x) := cell_of z.act 0
theorem Sx.act1 (z : Sx w bs fs A x key W) : W.cell? ⟨A, 1, none⟩ = some (.string key) := cell_of z.act 1
theorem x_new {K : Bl} (z : Sx w bs fs A x key W) (hK : K.Ok) (hb : K.b = fun _ => false) : Calls Try.prog 11 #[.int .i64 (K.n : Nat), .int .i64 (K.h : Nat), .int .u64 K.seed] W fun e w' => ∃ p g, e = .returned (.tuple #[.pointer (some ⟨p, 0, none⟩), .int .i64 0]) ∧ Sx w bs (⟨p, g, K.n / 64, K⟩ :: fs) A x key w' :=
  (k_new hK hb W).mono fun e w' ⟨p, g, q1, q2, q3, q4, q5⟩ => ⟨p, g, q1, z.newFil (f := ⟨p, g, K.n / 64, K⟩) q2 q4 q5⟩
theorem x_adds {p g q : Nat} {K : Bl} (z : Sx w bs fs A x key W) (h : fs[i]? = some ⟨p, g, q, K⟩) (hK : K.Ok) (ky : ByteArray) (hs : ky.size ≤ maxLen) (v : Bool) (hv : (!K.has ky.data.toList) = v) : Calls Try.prog 15 #[.pointer (some ⟨p, 0, none⟩), .string ky, .bool v] W fun e w' => e = .returned (.bool true) ∧ Sx w bs (fs.set i ⟨p, g, q, K.add ky.data.toList⟩) A x key w' :=
  (adds_is (z.st.get h) hK ky hs v hv).mono fun e w' ⟨q1, q2, q3⟩ => ⟨q1, z.put h q2 q3⟩
theorem x_add {p g q : Nat} {K : Bl} (z : Sx w bs fs A x key W) (h : fs[i]? = some ⟨p, g, q, K⟩) (hK : K.Ok) (ky : ByteArray) (hs : ky.size ≤ maxLen) : Calls Try.prog 22 #[.pointer (some ⟨p, 0, none⟩), .string ky] W fun e w' => e = .returned (.tuple #[.bool (!K.has ky.data.toList), .int .i64 0]) ∧ Sx w bs (fs.set i ⟨p, g, q, K.add ky.data.toList⟩) A x key w' :=
  (add_is (z.st.get h) hK ky hs).mono fun e w' ⟨q1, q2, q3⟩ => ⟨q1, z.put h q2 q3⟩
theorem x_words {p g q : Nat} {K : Bl} (z : Sx w bs fs A x key W) (h : fs[i]? = some ⟨p, g, q, K⟩) (hK : K.Ok) : Calls Try.prog 24 #[.pointer (some ⟨p, 0, none⟩)] W fun e w' => ∃ d, e = .returned (.slice (some ⟨d, 0, none⟩) (K.n / 64) (K.n / 64)) ∧ Nums w' .u64 22 d (K.n / 64) (K.n / 64) (wordsF K.b) ∧ Below W.heap.size W w' ∧ W.heap.size ≤ d :=
  (words_is (z.st.get h) hK).mono fun e w' ⟨d, q1, q2, q3, q4⟩ => ⟨d, q1, q4, q2, q3⟩
theorem x_clear {p g q : Nat} {K : Bl} (z : Sx w bs fs A x key W) (h : fs[i]? = some ⟨p, g, q, K⟩) (hK : K.Ok) : Calls Try.prog 25 #[.pointer (some ⟨p, 0, none⟩)] W fun e w' => e = .returned (.int .i64 0) ∧ Sx w bs (fs.set i ⟨p, g, q, K.none⟩) A x key w' :=
  (clear_is (z.st.get h) hK).mono fun e w' ⟨q1, q2, q3⟩ => ⟨q1, z.put h q2 q3⟩
theorem x_copy {p g q : Nat} {K : Bl} (z : Sx w bs fs A x key W) (h : fs[i]? = some ⟨p, g, q, K⟩) (hK : K.Ok) : Calls Try.prog 26 #[.pointer (some ⟨p, 0, none⟩)] W fun e w' => ∃ p' g', e = .returned (.pointer (some ⟨p', 0, none⟩)) ∧ Sx w bs (⟨p', g', K.n / 64, K⟩ :: fs) A x key w' :=
  (copy_is (z.st.get h) hK).mono fun e w' ⟨p', g', q1, q2, q3, q4, q5⟩ => ⟨p', g', q1, z.newFil (f := ⟨p', g', K.n / 64, K⟩) q2 q4 q5⟩
theorem x_join {p g q p2 g2 q2 : Nat} {K M : Bl} (z : Sx w bs fs A x key W) (h : fs[i]? = some ⟨p, g, q, K⟩) (h2 : fs[j]? = some ⟨p2, g2, q2, M⟩) (hne : j ≠ i) (hK : K.Ok) (hM : M.Ok) (hl : K.like M = true) : Calls Try.prog 20 #[.pointer (some ⟨p, 0, none⟩), .pointer (some ⟨p2, 0, none⟩)] W fun e w' => e = .returned (.int .i64 0) ∧ Sx w bs (fs.set i ⟨p, g, q, K.join M⟩) A x key w' :=
  (join_is (z.st.get h) hK (z.st.get h2) hM hl (pair_get (P := fun a b => a.g ≠ b.g) (fun _ _ h => h.symm) z.st.apf h2 h hne)).mono fun e w' ⟨q1, q2, q3⟩ => ⟨q1, z.put h q2 q3⟩
theorem x_equal {p g q R r c : Nat} {K : Bl} (z : Sx w bs fs A x key W) (h : fs[i]? = some ⟨p, g, q, K⟩) (h2 : bs[j]? = some ⟨R, r, c, K⟩) (hK : K.Ok) (ky : ByteArray) (hs : ky.size ≤ maxLen) : Calls Try.prog 12 #[.pointer (some ⟨p, 0, none⟩), .agg #[.int .i64 (K.h : Nat), .int .u64 K.seed, .slice (some ⟨r, 0, none⟩) K.n c], .string ky] W fun e w' => e = .returned (.bool true) ∧ Sx w bs fs A x key w' :=
  (equal_is (r := r) (c := c) (z.st.get h) (z.st.bget h2) hK ky hs).mono fun e w' ⟨q1, q2⟩ => ⟨q1, z.step q2⟩
theorem x_radd {R r c : Nat} {K : Bl} (z : Sx w bs fs A x key W) (h : bs[i]? = some ⟨R, r, c, K⟩) (hK : K.Ok) (ky : ByteArray) (hs : ky.size ≤ maxLen) : Calls Try.prog 18 #[.agg #[.int .i64 (K.h : Nat), .int .u64 K.seed, .slice (some ⟨r, 0, none⟩) K.n c], .string ky] W fun e w' => ∃ r' c', e = .returned (.tuple #[.agg #[.int .i64 (K.h : Nat), .int .u64 K.seed, .slice (some ⟨r', 0, none⟩) K.n c'], .bool (!K.has ky.data.toList)]) ∧ Sx w bs fs A x key w' ∧ Bools w' r' K.n c' (K.add ky.data.toList).b :=
  (radd_is (r := r) (c := c) (z.st.bget h) hK ky hs).mono fun e w' ⟨r', c', q1, q2, q3, q4⟩ => ⟨r', c', q1, z.step q3, q2⟩
theorem x_rjoin {R r c R2 r2 c2 : Nat} {K M : Bl} (z : Sx w bs fs A x key W) (h : bs[i]? = some ⟨R, r, c, K⟩) (h2 : bs[j]? = some ⟨R2, r2, c2, M⟩) (hK : K.Ok) (hM : M.Ok) (hl : K.like M = true) : Calls Try.prog 19 #[.agg #[.int .i64 (K.h : Nat), .int .u64 K.seed, .slice (some ⟨r, 0, none⟩) K.n c], .agg #[.int .i64 (M.h : Nat), .int .u64 M.seed, .slice (some ⟨r2, 0, none⟩) M.n c2]] W fun e w' => ∃ r' c', e = .returned (.tuple #[.agg #[.int .i64 (K.h : Nat), .int .u64 K.seed, .slice (some ⟨r', 0, none⟩) K.n c'], .int .i64 0]) ∧ Sx w bs fs A x key w' ∧ Bools w' r' K.n c' (K.join M).b :=
  (rjoin_is (r := r) (c := c) (r2 := r2) (c2 := c2) (z.st.bget h) hK (z.st.bget h2) hM hl).mono fun e w' ⟨r', c', q1, q2, q3, q4⟩ => ⟨r', c', q1, z.step q3, q2⟩
end
end Go.Proofs.Ytihgidkkdjmlkaa
