/-
  The contracts of bloom.New, Ones, Words, Clear, Copy.
-/
import Derived.Test.YtihgidkkdjmlkaaG
import Derived.Laws.MakeOwn
import Derived.Laws.CopyRow
import Derived.Lib.SlBuf
namespace Go.Proofs.Ytihgidkkdjmlkaa
open Go.ChangeShapes Go.WideShapes Go.ChangeAt Go.RowKit
set_option linter.unusedVariables false

theorem info22 : (Try.prog.info? 22).map (fun i => (i.zero, i.size, i.bytes)) = some (some (.int .u64 0), 1, 8) := by kernel_rfl
theorem info4 : (Try.prog.info? 4).map (fun i => (i.zero, i.size, i.bytes)) = some (some (.bool false), 1, 1) := by kernel_rfl
theorem make_words (n : Nat) (hn : n ≤ 1048576) (w : World) : (Instr.makeSlice 54 (.int .i64 (n : Nat)) (.int .i64 (n : Nat))).run Try.prog w = .ok (.slice (some ⟨w.heap.size, 0, none⟩) n n) (w.alloc (.cells (madeCells #[.int .u64 0] n) 22)) := by
  obtain ⟨i, hi, h1, h2, h3⟩ := info_parts info22
  have := run_make (P := Try.prog) w 54 22 i _ Try.underlying54 hi h1 .i64 .i64 (n : Nat) (n : Nat) (by omega) (by omega) (by rw [h3]; omega) (by omega)
  rw [this, h2]
  simp [Value.cells]
theorem make_bools (n : Nat) (hn : n ≤ 1048576) (w : World) : (Instr.makeSlice 23 (.int .i64 (n : Nat)) (.int .i64 (n : Nat))).run Try.prog w = .ok (.slice (some ⟨w.heap.size, 0, none⟩) n n) (w.alloc (.cells (madeCells #[.bool false] n) 4)) := by
  obtain ⟨i, hi, h1, h2, h3⟩ := info_parts info4
  have := run_make (P := Try.prog) w 23 4 i _ Try.underlying23 hi h1 .i64 .i64 (n : Nat) (n : Nat) (by omega) (by omega) (by rw [h3]; omega) (by omega)
  rw [this, h2]
  simp [Value.cells]
theorem Nums.zeros {w : World} {k : IntKind} {t : TypeId} {n : Nat} (hn : n ≤ maxLen) : Nums (w.alloc (.cells (madeCells #[.int k 0] n) t)) k t w.heap.size n n (fun _ => 0) :=
  ⟨_, heap_new rfl, Nat.le_refl _, hn, by simp [madeCells], fun i hi => by simp [madeCells, hi, Nat.mod_one]⟩
theorem nums_one {n : Nat} {k : IntKind} {f : Nat → Int} : ∀ u ∈ (List.range n).map (fun i => Value.int k (f i)), u.oneCell' = true := by
  intro u hu
  obtain ⟨i, _, rfl⟩ := List.mem_map.1 hu
  rfl
theorem nums_cells {w : World} {k : IntKind} {t : TypeId} {g n cap : Nat} {f : Nat → Int} (h : Nums w k t g n cap f) : ∀ j v, ((List.range n).map fun i => Value.int k (f i))[j]? = some v → w.cell? ((⟨g, 0, none⟩ : Addr).add j) = some v := by
  intro j v hj
  rw [List.getElem?_map] at hj
  obtain ⟨i, hi, rfl⟩ := Option.map_eq_some_iff.1 hj
  obtain ⟨hlt, rfl⟩ := List.getElem?_eq_some_iff.1 hi
  rw [List.getElem_range]
  have : j < n := by simpa using hlt
  have e : (⟨g, 0, none⟩ : Addr).add j = ⟨g, j, none⟩ := by unfold Addr.add; split <;> simp_all
  rw [e]; exact h.cell this
theorem copy_words {w : World} {g n cap : Nat} {f : Nat → Int} (s : Nums w .u64 22 g n cap f) (ty : TypeId) :
    ∃ W', (Builtin.copy_ #[54, 54] ty #[.slice (some ⟨w.heap.size, 0, none⟩) n n, .slice (some ⟨g, 0, none⟩) n cap]).run Try.prog (w.alloc (.cells (madeCells #[.int .u64 0] n) 22)) = .ok (goInt n) W' ∧ Nums W' .u64 22 w.heap.size n n f ∧ Below w.heap.size w W' := by
  obtain ⟨i22, hi, hz, hs, hb⟩ := info_parts info22
  have hcap : n ≤ maxLen := by obtain ⟨cur, _, h1, h2, _⟩ := s; omega
  have hh : (w.alloc (.cells (madeCells #[.int .u64 0] n) 22)).heap[w.heap.size]? = some (.cells (madeCells #[.int .u64 0] n) 22 (0, 0)) := heap_new rfl
  have r := run_copy_row (P := Try.prog) (w.alloc (.cells (madeCells #[.int .u64 0] n) 22)) 54 54 ty 22 w.heap.size 0 n n ⟨g, 0, none⟩ n cap (madeCells #[.int .u64 0] n) 22 ((List.range n).map fun i => Value.int .u64 (f i)) Try.underlying54 (by rw [hi]; simp [hs]) hh (by simp) (nums_cells (s.alloc _)) (by simp [size_madeCells]) nums_one
  have hl : ((List.range n).map fun i => Value.int .u64 (f i)).length = n := by simp
  rw [hl] at r
  refine ⟨_, r, ?_, ?_⟩
  · refine ⟨_, setRow_heap _ _ _ _ _ _ hh, Nat.le_refl _, hcap, by simp [size_madeCells], fun i hin => ?_⟩
    simp [hin, size_madeCells]
  · exact ((Below.refl _ _).alloc (Nat.le_refl _) _).trans ⟨rfl, rfl, rfl, by simp, fun k hk => setRow_other _ _ _ _ (by omega)⟩
theorem clear_words {w : World} {g n cap : Nat} {f : Nat → Int} (s : Nums w .u64 22 g n cap f) (h0 : 0 < n) (ty : TypeId) :
    ∃ W', (Builtin.clear_ #[54] ty #[.slice (some ⟨g, 0, none⟩) n cap]).run Try.prog w = .ok (.tuple #[]) W' ∧ Nums W' .u64 22 g n cap (fun _ => 0) ∧ Keeps [g] w W' := by
  obtain ⟨i22, hi, hz, hs, hb⟩ := info_parts info22
  obtain ⟨cur, hh, h1, h2, h3, h4⟩ := s
  obtain ⟨m, rfl⟩ : ∃ m, n = m + 1 := ⟨n - 1, by omega⟩
  have hzl : (Builtin.zeroCells #[.int .u64 0] (m + 1)).toList.length = m + 1 := by simp [size_zeroCells]
  have hst := run_storeCells_at Try.prog g 0 22 (Builtin.zeroCells #[.int .u64 0] (m + 1)).toList 0 cur w hh (by rw [hzl]; omega) (fun v hv => by
    have : v ∈ Builtin.zeroCells #[.int .u64 0] (m + 1) := by simpa using hv
    unfold Builtin.zeroCells at this
    simp at this
    obtain ⟨a, ha, rfl⟩ := this
    simp [Nat.mod_one]; rfl)
  have hc : (Value.int .u64 0).cells = #[.int .u64 0] := rfl
  obtain ⟨C, hC⟩ : ∃ C, (cur.toList.take (0 + 0) ++ (Builtin.zeroCells #[.int .u64 0] (m + 1)).toList ++ cur.toList.drop (0 + 0 + (Builtin.zeroCells #[.int .u64 0] (m + 1)).toList.length)).toArray = C := ⟨_, rfl⟩
  rw [hC] at hst
  refine ⟨w.setRow g C, ?_, ⟨C, setRow_heap _ _ _ _ _ _ hh, h1, h2, ?_, fun i hin => ?_⟩, ⟨rfl, rfl, rfl, by simp, fun k hk hne => setRow_other _ _ _ _ (by simpa using hne)⟩⟩
  · simp [Builtin.clear_, run_underlying Try.underlying54, zeroValue, typeInfo, hi, hz, hc, hst]
  · rw [← hC]; simp [size_zeroCells]; omega
  · have : (Builtin.zeroCells #[.int .u64 0] (m + 1))[i]? = some (Value.int .u64 0) := by
      unfold Builtin.zeroCells
      simp [hin, Nat.mod_one]
    rw [← hC]
    simp [hin, size_zeroCells, List.getElem?_append]
    exact (Array.getElem?_eq_some_iff.1 this).2
section
variable {w : World} {p g q : Nat} {K : Bl}
theorem Bl.Ok.new {n h : Nat} {seed : Int} (h1 : sizeB n = true) (h2 : 1 ≤ h ∧ h ≤ 8) (h3 : Word seed) : (Bl.new n h seed).Ok := ⟨size_pow.1 h1, h2, h3⟩
theorem wordsF_none (k : Nat) : wordsF (fun _ => false) k = 0 := by unfold wordsF; rw [pack_none]; rfl
set_option maxRecDepth 100000 in
theorem new_ok (n h : Nat) (seed : Int) (h1 : sizeB n = true) (h2 : 1 ≤ h ∧ h ≤ 8) (h3 : Word seed) (w : World) : Calls Try.prog 11 #[.int .i64 (n : Nat), .int .i64 (h : Nat), .int .u64 seed] w fun e w' => ∃ p g, e = .returned (.tuple #[.pointer (some ⟨p, 0, none⟩), .int .i64 0]) ∧ Below w.heap.size w w' ∧ w.heap.size ≤ p ∧ w.heap.size ≤ g ∧ IsBl w' p g (n / 64) (Bl.new n h seed) := by
  have hn := (Bl.Ok.new h1 h2 h3).n64
  have hn0 : 64 ≤ n := hn.1
  have hn1 : n ≤ 1048576 := hn.2.1
  have h7 : onesN n = 1 := (size_ones hn0 hn1).2 h1
  have H7 := Lib.hid h7
  obtain ⟨h21, h22⟩ := h2
  have hmk := make_words (n / 64) (by omega)
  have hc : ((n / 64 : Nat) : Int) = (n : Int) / 64 := by omega
  simp only [hc] at hmk
  clear hn hc h7
  go_enter Try.func11, Try.ntmps11
  go_upto_region 3 with (first | (go_at_call 28; refine (ones n (by omega) _).mono ?_; rintro e w' ⟨rfl, rfl⟩; rw [H7.out]))
  have hwr : IntKind.i64.wrap ((n : Int) / 64) = (n : Int) / 64 := by rw [IntKind.wrap_i64]; omega
  go_region_with (first | (go_at_call 29; refine (new_any seed false _).mono ?_; rintro e w' ⟨rfl, rfl⟩))
  all_goals go_wp2_with fail
  all_goals go_ret2
  · have z : Nums ((w.alloc (.cells #[.int .u64 seed, .bool false] 61)).alloc (.cells (madeCells #[.int .u64 0] (n / 64)) 22)) .u64 22 (w.heap.size + 1) (n / 64) (n / 64) (fun _ => 0) := by
      have := Nums.zeros (w := w.alloc (.cells #[.int .u64 seed, .bool false] 61)) (k := .u64) (t := 22) (n := n / 64) (by unfold maxLen; omega)
      simpa using this
    exact ⟨w.heap.size + 2, w.heap.size + 1, rfl, ((((Below.refl _ _).alloc (Nat.le_refl _) _).alloc (by simp) _).alloc (by simp; omega) _).drew, by omega, by omega, ⟨heap_drew (heap_new (by simp)), (z.alloc _).congr (fun i _ => wordsF_none i)⟩⟩
  · have z : Nums (w.alloc (.cells (madeCells #[.int .u64 0] (n / 64)) 22)) .u64 22 w.heap.size (n / 64) (n / 64) (fun _ => 0) := Nums.zeros (by unfold maxLen; omega)
    exact ⟨w.heap.size + 2, w.heap.size, rfl, ((((Below.refl _ _).alloc (Nat.le_refl _) _).alloc (by simp) _).alloc (by simp; omega) _).drew, by omega, by omega, ⟨heap_drew (heap_new (by simp)), ((z.alloc _).alloc _).congr (fun i _ => wordsF_none i)⟩⟩
theorem new_no (n h : Int) (seed : Int) (hn : 0 ≤ n → sizeB n.toNat = true → h < 1 ∨ 8 < h) (h3 : Word seed) (w : World) : Calls Try.prog 11 #[.int .i64 n, .int .i64 h, .int .u64 seed] w fun e w' => e = .returned (.tuple #[.pointer none, .int .i64 2]) ∧ w = w' := by
  by_cases h16 : 64 ≤ n ∧ n ≤ 1048576
  · obtain ⟨m, rfl⟩ := Int.eq_ofNat_of_zero_le (a := n) (by omega)
    obtain ⟨a, b⟩ := h16
    have h7 : onesN m = 1 → h < 1 ∨ 8 < h := fun q => hn (by omega) ((size_ones (by omega) (by omega)).1 q)
    clear hn
    generalize hE : onesN m = E at h7
    have hE1 := Lib.hid hE
    clear hE
    go_enter Try.func11, Try.ntmps11
    go_wp2_with (first | (go_at_call 28; refine (ones m (by omega) _).mono ?_; rintro e w' ⟨rfl, rfl⟩; rw [hE1.out]))
    all_goals first | omega | skip
    all_goals go_ret2
    all_goals exact ⟨rfl, rfl⟩
  · clear hn
    go_enter Try.func11, Try.ntmps11
    go_wp2_with fail
    all_goals first | omega | skip
    all_goals go_ret2
    all_goals exact ⟨rfl, rfl⟩
theorem ones_is (s : IsBl w p g q K) (hK : K.Ok) : Calls Try.prog 17 #[.pointer (some ⟨p, 0, none⟩)] w fun e w' => e = .returned (.int .i64 (K.ones : Nat)) ∧ w = w' := by
  have h64 := hK.n64
  obtain ⟨h1, h2, h3⟩ := h64
  have c4 := s.cells.2.2.2.2
  have H3 := Lib.hid h3
  have hm : K.n / 64 ≤ 16384 := by omega
  clear h3
  go_enter Try.func17, Try.ntmps17
  go_wp2_with (first | (go_at_call 35; refine (zero_is s hK).mono ?_; rintro e w1 ⟨rfl, rfl⟩))
  go_loop [3, 13] (fun a x => ∃ i : Nat, i ≤ K.n / 64 ∧ a = .int .i64 ((cntB K.b (64 * i) : Nat) : Int) ∧ x = .int .i64 (i : Nat)) (fun _ x => K.n / 64 - (intOf x).toNat)
  case atStart => exact ⟨0, Nat.zero_le _, rfl, rfl⟩
  case round =>
    obtain ⟨i, hi, rfl, rfl⟩ := hrel
    have hcl := cntB_le K.b (64 * i)
    by_cases hlt : i < K.n / 64
    · have cw := s.word hlt
      have hp := pack_lt K.b i
      have ho := onesN_le (pack K.b i)
      have HS := Lib.hid (cntB_word K.b i)
      have hi2 : i < 16384 := by omega
      have hlt2 : (i : Int) < (K.n : Int) / 64 := by omega
      go_wp2_with (first | (go_at_call 38; refine (ones64 _ hp _).mono ?_; rintro e w' ⟨rfl, rfl⟩))
      go_round
      case rel => exact ⟨i + 1, by omega, by rw [HS.out]; go_num, by go_num⟩
      case measure => simp [intOf]; omega
    · obtain rfl : K.n / 64 = i := by omega
      go_wp2_with fail
      go_ret
      refine ⟨ret_i64 ?_, rfl⟩
      unfold Bl.ones
      rw [← H3.out]
set_option maxRecDepth 100000 in
theorem words_is (s : IsBl w p g q K) (hK : K.Ok) : Calls Try.prog 24 #[.pointer (some ⟨p, 0, none⟩)] w fun e w' => ∃ d, e = .returned (.slice (some ⟨d, 0, none⟩) (K.n / 64) (K.n / 64)) ∧ Below w.heap.size w w' ∧ w.heap.size ≤ d ∧ Nums w' .u64 22 d (K.n / 64) (K.n / 64) (wordsF K.b) := by
  have h64 := hK.n64
  obtain ⟨h1, h2, h3⟩ := h64
  have hmk := make_words (K.n / 64) (by omega)
  have hc : ((K.n / 64 : Nat) : Int) = (K.n : Int) / 64 := by omega
  simp only [hc] at hmk
  clear hc
  have hlt := s.lt.1
  have c4 := s.cells.2.2.2.2
  have c4' : (w.alloc (.cells (madeCells #[.int .u64 0] (K.n / 64)) 22)).cell? ⟨p, 4, none⟩ = some (.slice (some ⟨g, 0, none⟩) (K.n / 64) q) := by rw [World.cell?_alloc_lt _ _ _ hlt]; exact c4
  obtain ⟨W, r, nW, bW⟩ := copy_words s.row 3
  clear h3
  go_enter Try.func24, Try.ntmps24
  go_upto_region 4 with (first | (go_at_call 35; refine (zero_is s hK).mono ?_; rintro e w1 ⟨rfl, rfl⟩))
  go_wp2_with (refine Lib.wpList_copy_run _ rfl _ _ 54 54 rfl _ _ rfl rfl r ?_)
  go_ret
  exact ⟨w.heap.size, rfl, bW, Nat.le_refl _, nW⟩
theorem clear_is (s : IsBl w p g q K) (hK : K.Ok) : Calls Try.prog 25 #[.pointer (some ⟨p, 0, none⟩)] w fun e w' => e = .returned (.int .i64 0) ∧ Keeps [g] w w' ∧ IsBl w' p g q K.none := by
  have h64 := hK.n64
  have c4 := s.cells.2.2.2.2
  obtain ⟨W, r, nW, kW⟩ := clear_words s.row (by omega) 0
  have s2 : IsBl W p g q K.none := ⟨kW.at s.obj (by simpa using s.ne), nW.congr (fun i _ => wordsF_none i)⟩
  clear h64
  go_enter Try.func25, Try.ntmps25
  go_wp2_with (first | (go_at_call 35; refine (zero_is s hK).mono ?_; rintro e w1 ⟨rfl, rfl⟩))
  go_ret
  exact ⟨rfl, kW, s2⟩
end
end Go.Proofs.Ytihgidkkdjmlkaa
