/-
  The walk of SketchHolds.
-/
import Derived.Test.YtffniljefbpoiaaY
import Derived.Deep.RegionLaw
import Derived.Deep.DeepCutAuto
import Derived.Deep.CutBlock
namespace Go.Proofs.Ytffniljefbpoiaa
open Go.ChangeShapes Go.WideShapes Go.ChangeAt Go.RowKit
set_option linter.unusedVariables false

section
variable {w W : World} {p : Nat} {G Q : Nat → Nat} {K : Sk} {q : Nat} {H P : Nat → Nat} {L : Sk} {u : Nat} {I J : Nat → Nat} {M : Sk} {m : Nat} {V : ByteArray → Int} {A : Nat} {x : Int} {key : ByteArray}
theorem y_add (h : Ta w p G Q K q H P L u I J M m V A x key W ∧ W.cell? ⟨A, 1, none⟩ = some (.string key) ∧ (Instr.lookup 66 (.map (some m)) (.string key) false).run Try.prog W = .ok (.int .i64 (V key)) W) (hK : K.Ok) : Calls Try.prog 21 #[.pointer (some ⟨p, 0, none⟩)] W fun e w' => e = .returned (.int .i64 (K.a : Nat)) ∧ Ta w p G Q K q H P L u I J M m V A x key w' := by
  refine (additions_is h.1.t.s1 hK).mono ?_
  rintro e w' ⟨rfl, rfl⟩; exact ⟨rfl, h.1⟩
theorem y_cnt (h : Ta w p G Q K q H P L u I J M m V A x key W ∧ W.cell? ⟨A, 1, none⟩ = some (.string key) ∧ (Instr.lookup 66 (.map (some m)) (.string key) false).run Try.prog W = .ok (.int .i64 (V key)) W) (hK : K.Ok) (hkey : key.size ≤ maxLen) : Calls Try.prog 20 #[.pointer (some ⟨p, 0, none⟩), .string key] W fun e w' => e = .returned (.int .i64 (K.cnt key.data.toList : Nat)) ∧ Ta w p G Q K q H P L u I J M m V A x key w' := by
  refine (count_is h.1.t.s1 hK key hkey).mono ?_
  rintro e w' ⟨rfl, b⟩; exact ⟨rfl, h.1.below b⟩
end
/-- A statement put away. -/
structure Away (T : Prop) : Prop where
  out : T
theorem suff {T G : Prop} (main : Away T → G) (pf : T) : G := main ⟨pf⟩
theorem Sk.add_s (K : Sk) (l : List UInt8) : (K.add l).s = K.s := by
  unfold Sk.add
  split <;> rfl
set_option maxRecDepth 100000 in
set_option maxHeartbeats 16000000 in
theorem sketchHolds_walk (a0 a1 a2 : Int) (sl : Option Addr) (len cap : Nat) (f : Nat → Int) (g : Nat → ByteArray) (w0 : (Lit.int .i64 a0).wf = true) (w1 : (Lit.int .u64 a1).wf = true) (w2 : (Lit.int .i64 a2).wf = true) (w : World) (hl : len ≤ maxLen) (hacts : IsActs w sl len f g) :
    Calls Try.prog 7 #[.int .i64 a0, .int .u64 a1, .int .i64 a2, .slice sl len cap] w fun e w' => e = .returned (.bool true) ∧ Below w.heap.size w w' := by
  have hseed : Word a1 := word_wf w1
  have hb := int_wf w0
  clear w0 w1 w2
  have hlen : len ≤ 9223372036854775807 := by unfold maxLen at hl; omega
  by_cases hg : 0 ≤ a0 ∧ widthB a0.toNat = true ∧ 0 ≤ a2 ∧ a2 ≤ 16777216
  · obtain ⟨g0, g1, g2, g3⟩ := hg
    obtain ⟨n, rfl⟩ := Int.eq_ofNat_of_zero_le g0
    obtain ⟨s, rfl⟩ := Int.eq_ofNat_of_zero_le g2
    generalize a1 = seed at *
    have h1 : widthB n = true := by simpa using g1
    have h2 : s ≤ 16777216 := by omega
    have hK0 : (Sk.new n seed s).Ok := Sk.new_ok h1 h2 hseed
    have hL0 : (Sk.new n seed 0).Ok := Sk.new_ok h1 (by omega) hseed
    clear g0 g1 g2 g3 hb
    have R8 := fun w => refNew_v n s seed h1 h2 hseed w
    have R11 := fun w => new_ok n s seed h1 h2 hseed w
    have R12 : ∀ w, Calls Try.prog 11 #[.int .i64 (n : Nat), .int .u64 seed, .int .i64 0] w _ := fun w => new_ok n 0 seed h1 (by omega) hseed w
    have R13 := R12
    have hmk := make_map
    by_cases hsm : 64 < n ∨ 100 < s
    · go_enter Try.func7, Try.ntmps7
      rcases hsm with hsm | hsm
      · go_wp2_with (first | (go_at_call 8; refine (R8 _).mono ?_; rintro e v1 ⟨R, C, rfl, b1, -, -, -⟩; have b2 := b1.alloc b1.size (.cells #[.int .i64 (n : Nat), .int .i64 (s : Nat), .int .i64 0, .int .u64 seed, .slice (some ⟨R 0, 0, none⟩) n (C 0), .slice (some ⟨R 1, 0, none⟩) n (C 1), .slice (some ⟨R 2, 0, none⟩) n (C 2), .slice (some ⟨R 3, 0, none⟩) n (C 3)] 27)) | (go_at_call 10; refine (known_any _).mono ?_; rintro e v2 ⟨rfl, b3⟩))
        go_ret
        exact ⟨rfl, b2.trans (b3.mono b2.size)⟩
      · go_wp2_with (first | (go_at_call 8; refine (R8 _).mono ?_; rintro e v1 ⟨R, C, rfl, b1, -, -, -⟩; have b2 := b1.alloc b1.size (.cells #[.int .i64 (n : Nat), .int .i64 (s : Nat), .int .i64 0, .int .u64 seed, .slice (some ⟨R 0, 0, none⟩) n (C 0), .slice (some ⟨R 1, 0, none⟩) n (C 1), .slice (some ⟨R 2, 0, none⟩) n (C 2), .slice (some ⟨R 3, 0, none⟩) n (C 3)] 27)) | (go_at_call 10; refine (known_any _).mono ?_; rintro e v2 ⟨rfl, b3⟩))
        all_goals go_ret
        all_goals exact ⟨rfl, b2.trans (b3.mono b2.size)⟩
    · have hsm1 : n ≤ 64 := by omega
      have hsm2 : s ≤ 100 := by omega
      clear hsm
      go_enter Try.func7, Try.ntmps7
      go_upto_region 2 with (first | (go_at_call 8; refine (R8 _).mono ?_; rintro e v1 ⟨R, C, rfl, b1, -, -, -⟩))
      have b2 := b1.alloc b1.size (.cells #[.int .i64 (n : Nat), .int .i64 (s : Nat), .int .i64 0, .int .u64 seed, .slice (some ⟨R 0, 0, none⟩) n (C 0), .slice (some ⟨R 1, 0, none⟩) n (C 1), .slice (some ⟨R 2, 0, none⟩) n (C 2), .slice (some ⟨R 3, 0, none⟩) n (C 3)] 27)
      have F9 := few_is (cap := cap) (hacts.below b2) hl
      clear R8
      go_wp2_with (first | (go_at_call 9; refine F9.mono ?_; rintro e v2 ⟨bb, rfl, hbb, rfl⟩; clear F9; cases bb) | (go_at_call 10; refine (known_any _).mono ?_; rintro e v2 ⟨rfl, b3⟩) | (go_at_call 11; refine (R11 _).mono ?_; clear R11; rintro e v3 ⟨p, G, Q, rfl, b4, o4, s4⟩) | (go_at_call 11; refine (R12 _).mono ?_; clear R12; rintro e v4 ⟨q, H, P, rfl, b5, o5, s5⟩) | (go_at_call 11; refine (R13 _).mono ?_; clear R13; rintro e v5 ⟨u, I, J, rfl, b6, o6, s6⟩))
      · go_ret
        exact ⟨rfl, b2.trans (b3.mono b2.size)⟩
      · obtain ⟨h60, h300⟩ := hbb (by first | trivial | rfl)
        clear hbb hl hlen
        have H300 := Lib.hid h300
        clear h300
        have c5 := b2.trans (b4.mono b2.size)
        have c6 := c5.trans (b5.mono c5.size)
        have c7 := c6.trans (b6.mono c6.size)
        have Z0 : Ts w p G Q (Sk.new n seed s) q H P (Sk.new n seed 0) u I J (Sk.new n seed 0) v5.heap.size (fun _ => 0) (v5.alloc (.map #[] 0)) :=
          ⟨c7.alloc c7.size _, ((s4.below b5).below b6).below ((Below.refl _ _).alloc (Nat.le_refl _) _), (s5.below b6).below ((Below.refl _ _).alloc (Nat.le_refl _) _), s6.below ((Below.refl _ _).alloc (Nat.le_refl _) _), Mp.new,
            fun i hi hj => by have := s4.lt i hi; have := o5 i hj; omega,
            fun i hi hj => by have := s4.lt i hi; have := o6 i hj; have := b5.size; omega,
            fun i hi hj => by have := s5.lt i hi; have := o6 i hj; omega,
            fun i hi => Nat.le_trans b2.size (o4 i hi), fun i hi => Nat.le_trans c5.size (o5 i hi), fun i hi => Nat.le_trans c6.size (o6 i hi), c7.size⟩
        clear b1 b2 b4 b5 b6 c5 c6 c7 s4 s5 s6 o4 o5 o6
        generalize (Value.agg #[.int .i64 (n : Nat), .int .i64 (s : Nat), .int .i64 0, .int .u64 seed, .slice (some ⟨R 0, 0, none⟩) n (C 0), .slice (some ⟨R 1, 0, none⟩) n (C 1), .slice (some ⟨R 2, 0, none⟩) n (C 2), .slice (some ⟨R 3, 0, none⟩) n (C 3)]) = za
        have ha0 : (Sk.new n seed s).a ≤ 0 := Nat.le_refl _
        go_loopw [17, 18, 19] (fun mv av x wr => ∃ k m V K L M, k ≤ len ∧ mv = .map (some m) ∧ av = .int .i64 ((Sk.a K : Nat) : Int) ∧ x = .int .i64 (k : Nat) ∧ Sk.Ok K ∧ K.a ≤ k ∧ K.s = s ∧ Lower K V ∧ (∀ y, V y ≤ k) ∧ Sk.Ok L ∧ Plain n seed g k L ∧ Sk.Ok M ∧ Plain n seed (fun j => g (len - 1 - j)) k M ∧ Ts w p G Q K q H P L u I J M m V wr) (fun _ _ x _ => len + 1 - (intOf x).toNat)
        case atStart => exact ⟨0, v5.heap.size, fun _ => 0, (Sk.new n seed s), Sk.new n seed 0, Sk.new n seed 0, by omega, rfl, rfl, rfl, hK0, ha0, rfl, Lower.zero _, fun _ => Int.le_refl _, hL0, Plain.zero _ _ _, hL0, Plain.zero _ _ _, Z0⟩
        case round =>
          obtain ⟨k, m, V, K, L, M, hk, rfl, rfl, rfl, hK, hKa, hKs, hLow, hV, hL, hPL, hM, hPM, Z0⟩ := hrel
          have HV := Lib.hid hV
          clear hV hK0 ha0 hL0
          by_cases hkl : k < len
          · obtain ⟨B, off, rfl, ca, cb⟩ := acts_at hacts Z0.bel hkl
            have hkey : (g k).size ≤ maxLen := by have := H300.out k hkl; unfold maxLen; omega
            generalize hgk : g k = key at *
            have Hgk := Lib.hid hgk
            clear hgk
            generalize f k = x0 at *
            go_upto_region 16 with fail
            refine wp_seen (Ta w p G Q K q H P L u I J M m V _ x0 key) (Z0.act x0 key) ?_
            generalize wr.heap.size = A
            clear Z0 ca cb
            intro W Z
            have a0 : W.cell? ⟨A, 0, none⟩ = some (.int .i64 x0) := cell_of Z.act 0
            have a1 : W.cell? ⟨A, 1, none⟩ = some (.string key) := cell_of Z.act 1
            have hKa1 : K.a + 1 < 16777217 := by omega
            go_upto_block 2 with fail
            go_cut [18, 21] (fun av hv wx => ∃ (K1 : Sk) (V1 : ByteArray → Int) (h : Bool) (z : Int), av = .int .i64 z ∧ hv = .bool h ∧ K1.Ok ∧ K1.a ≤ k + 1 ∧ K1.s = s ∧ (h = true → ((K1.a : Nat) : Int) = z / 2) ∧ (h = false → z = ((K1.a : Nat) : Int) ∧ Lower K1 V1 ∧ ∀ y, V1 y ≤ ((k + 1 : Nat) : Int)) ∧ 0 ≤ z ∧ z ≤ 100000 ∧ Ta w p G Q K1 q H P L u I J M m V1 A x0 key wx)
            case first =>
              by_cases q0 : x0 = 0
              · subst q0
                have C12 := add_is Z.t.s1 hK key hkey hKa1
                have put := fun W' (Zt : Ta w p G Q (K.add key.data.toList) q H P L u I J M m V A 0 key W') => Zt.t.mp.put key (V key + 1)
                have hVk : V key ≤ k := HV.out key
                have hV0 : 0 ≤ V key := (hLow key).1
                have hVu : ∀ y, updV V key (V key + 1) y ≤ ((k + 1 : Nat) : Int) := fun y => by unfold updV; have := HV.out y; split <;> omega
                have HVu := Lib.hid hVu
                clear hVu
                have hKb1 : (K.add key.data.toList).a ≤ k + 1 := by have := Sk.add_a K key.data.toList; omega
                have hKs1 := (Sk.add_s K key.data.toList).trans hKs
                by_cases hf : 0 < K.s ∧ K.a + 1 = K.s
                · have ef : K.full = true := by unfold Sk.full; simpa using hf
                  rw [ef] at C12
                  obtain ⟨hf1, hf2⟩ := hf
                  rw [hKs] at hf1 hf2
                  have hf3 : (K.a : Int) + 1 = s := by omega
                  have ea : (((K.add key.data.toList).a : Nat) : Int) = (s : Int) / 2 := by
                    have : (K.add key.data.toList).a = (K.a + 1) / 2 := by unfold Sk.add; rw [ef]; rfl
                    omega
                  go_upto_region 23 with (first | (go_at_call 12; refine C12.mono ?_; clear C12; rintro e w5 ⟨rfl, k5, s5⟩))
                  have Z5 := Z.one k5 s5
                  clear Z k5 s5 hf1 hf2 hf3
                  have lk := Z5.t.mp.look key
                  obtain ⟨w6, pt, mp6, k6⟩ := put _ Z5
                  clear put
                  have a1 : w5.cell? ⟨A, 1, none⟩ = some (.string key) := cell_of Z5.act 1
                  have Z6 := Z5.map k6 mp6
                  clear Z5 k6 mp6
                  generalize V key = vk at *
                  go_wp2_with fail
                  go_meet
                  case rel => exact ⟨_, _, true, _, rfl, rfl, hK.add _ hKa1, hKb1, hKs1, (fun _ => ea), (fun h => by cases h), by omega, by omega, Z6⟩
                · have ef : K.full = false := by unfold Sk.full; simpa using hf
                  rw [ef] at C12
                  rw [hKs] at hf
                  have ed : K.add key.data.toList = K.up key.data.toList := by unfold Sk.add; rw [ef]; rfl
                  have ea : (K.a : Int) + 1 = (((K.add key.data.toList).a : Nat) : Int) := by
                    rw [ed]; show _ = ((K.a + 1 : Nat) : Int); omega
                  have hlow1 : Lower (K.add key.data.toList) (updV V key (V key + 1)) := by rw [ed]; exact hLow.up hK key
                  have Ea := Lib.hid ea
                  clear ed ea
                  have hsp : (0 < s ∧ ¬ (K.a : Int) + 1 = s) ∨ (¬ (0 : Int) < s) := by omega
                  clear hf
                  rcases hsp with ⟨x1, x2⟩ | x1
                  · go_upto_region 23 with (first | (go_at_call 12; refine C12.mono ?_; clear C12; rintro e w5 ⟨rfl, k5, s5⟩))
                    have Z5 := Z.one k5 s5
                    clear Z k5 s5 x1 x2
                    have lk := Z5.t.mp.look key
                    obtain ⟨w6, pt, mp6, k6⟩ := put _ Z5
                    clear put
                    have a1 : w5.cell? ⟨A, 1, none⟩ = some (.string key) := cell_of Z5.act 1
                    have Z6 := Z5.map k6 mp6
                    clear Z5 k6 mp6
                    generalize V key = vk at *
                    go_wp2_with fail
                    go_meet
                    case rel => exact ⟨_, _, false, _, rfl, rfl, hK.add _ hKa1, hKb1, hKs1, (fun h => by cases h), (fun _ => ⟨Ea.out, hlow1, HVu.out⟩), by omega, by omega, Z6⟩
                  · go_upto_region 23 with (first | (go_at_call 12; refine C12.mono ?_; clear C12; rintro e w5 ⟨rfl, k5, s5⟩))
                    have Z5 := Z.one k5 s5
                    clear Z k5 s5 x1
                    have lk := Z5.t.mp.look key
                    obtain ⟨w6, pt, mp6, k6⟩ := put _ Z5
                    clear put
                    have a1 : w5.cell? ⟨A, 1, none⟩ = some (.string key) := cell_of Z5.act 1
                    have Z6 := Z5.map k6 mp6
                    clear Z5 k6 mp6
                    generalize V key = vk at *
                    go_wp2_with fail
                    go_meet
                    case rel => exact ⟨_, _, false, _, rfl, rfl, hK.add _ hKa1, hKb1, hKs1, (fun h => by cases h), (fun _ => ⟨Ea.out, hlow1, HVu.out⟩), by omega, by omega, Z6⟩
              · by_cases q1 : x0 = 1
                · subst q1
                  have C14 := halve_is Z.t.s1 hK
                  go_wp2_with (first | (go_at_call 14; refine C14.mono ?_; clear C14; rintro e w5 ⟨rfl, k5, s5⟩))
                  go_meet
                  case rel => exact ⟨K.half, V, true, (K.a : Int), rfl, rfl, hK.half, by show K.a / 2 ≤ _; omega, hKs, (fun _ => by show ((K.a / 2 : Nat) : Int) = _; omega), (fun h => by cases h), by omega, by omega, Z.one k5 s5⟩
                · go_wp2_with fail
                  go_meet
                  case rel => exact ⟨K, V, false, (K.a : Int), rfl, rfl, hK, by omega, hKs, (fun h => by cases h), (fun _ => ⟨rfl, hLow, fun y => by have := HV.out y; omega⟩), by omega, by omega, Z⟩
            case rest =>
              obtain ⟨K1, V1, h, z, rfl, rfl, hK1, hKb1, hKs1, hh1, hh2, hz0, hz1, Z⟩ := hcut
              clear hK hKa hKs hLow HV hKa1
              go_upto_if 142 with fail
              go_cut [17, 18] (fun mv av wx => ∃ (m2 : Nat) (V2 : ByteArray → Int), mv = .map (some m2) ∧ av = .int .i64 ((K1.a : Nat) : Int) ∧ Lower K1 V2 ∧ (∀ y, V2 y ≤ ((k + 1 : Nat) : Int)) ∧ Ta w p G Q K1 q H P L u I J M m2 V2 A x0 key wx)
              case first =>
                cases h with
                | true =>
                  have ea := hh1 rfl
                  have Ea := Lib.hid ea
                  clear ea hh1 hh2
                  go_wp2_with fail
                  go_meet
                  case rel => exact ⟨_, fun _ => 0, rfl, by rw [Ea.out], Lower.zero _, fun y => by dsimp only; omega, Z.fresh ((Below.refl _ _).alloc (Nat.le_refl _) (.map #[] 0)) Mp.new (Nat.le_refl _)⟩
                | false =>
                  obtain ⟨rfl, hl2, hv2⟩ := hh2 rfl
                  have Hv2 := Lib.hid hv2
                  clear hh1 hh2 hv2
                  go_wp2_with fail
                  go_meet
                  case rel => exact ⟨m, V1, rfl, rfl, hl2, Hv2.out, Z⟩
              case rest =>
                obtain ⟨m2, V2, rfl, rfl, hLow1, hV1, Z⟩ := hcut
                have HV1 := Lib.hid hV1
                clear hV1 hh1 hh2 hz0 hz1
                go_upto_region 31 with fail
                go_cut [161] (fun bv wx => bv = .bool false ∧ Ta w p G Q K1 q H P L u I J M m2 V2 A x0 key wx)
                case first =>
                  have lk := Z.t.mp.look key
                  have a1 : World.cell? _ ⟨A, 1, none⟩ = some (.string key) := cell_of Z.act 1
                  have hc := hLow1.cnt key
                  obtain ⟨Y, hY⟩ : ∃ Y, (if V2 key < 15 then V2 key else 15) = Y := ⟨_, rfl⟩
                  rw [hY] at hc
                  go_region_held3 (fun W => Ta w p G Q K1 q H P L u I J M m2 V2 A x0 key W ∧ W.cell? ⟨A, 1, none⟩ = some (.string key) ∧ (Instr.lookup 66 (.map (some m2)) (.string key) false).run Try.prog W = .ok (.int .i64 (V2 key)) W) (first | assumption | exact ⟨by assumption, cell_of (Ta.act (by assumption)) 1, Mp.look (Ts.mp (Ta.t (by assumption))) key⟩ | exact ⟨Z.below (Below.refl _ _).drew, a1, (Z.below (Below.refl _ _).drew).t.mp.look key⟩) (first | (go_at_call 21; refine (y_add (by assumption) hK1).mono ?_; rintro e w' ⟨rfl, Hz⟩) | (go_at_call 20; refine (y_cnt (by assumption) hK1 hkey).mono ?_; rintro e w' ⟨rfl, Hz⟩))
                  all_goals go_wp2_with fail
                  all_goals go_meet
                  all_goals exact ⟨congrArg Value.bool (by simpa using hc), Hz⟩
                case rest =>
                  obtain ⟨rfl, Z2⟩ := hcut
                  have hi2 : len - 1 - k < len := by omega
                  obtain ⟨B2, off2, e2, cc, cd⟩ := acts_at hacts Z2.t.bel hi2
                  obtain ⟨rfl, rfl⟩ : B = B2 ∧ off = off2 := by simpa using e2
                  have eix : (len : Int) - 1 - (k : Int) = ((len - 1 - k : Nat) : Int) := by omega
                  have hkey2 : (g (len - 1 - k)).size ≤ maxLen := by have := H300.out (len - 1 - k) hi2; unfold maxLen; omega
                  have hLa : L.a + 1 < 16777217 := by rw [hPL.ea]; omega
                  have hMa : M.a + 1 < 16777217 := by rw [hPM.ea]; omega
                  generalize hg2 : g (len - 1 - k) = key2 at *
                  have hPM2 : Plain n seed (fun j => g (len - 1 - j)) (k + 1) (M.add key2.data.toList) := by
                    have := hPM.add
                    rw [hg2] at this
                    exact this
                  clear hg2
                  generalize f (len - 1 - k) = y0 at *
                  generalize len - 1 - k = i2 at *
                  go_upto_region 34 with fail
                  refine wp_seen (fun W => Ta w p G Q K1 q H P L u I J M m2 V2 A x0 key W ∧ W.heap[wc.heap.size]? = some (.cells #[.int .i64 y0, .string key2] 37 (0, 0))) ⟨Z2.below ((Below.refl _ _).alloc (Nat.le_refl _) _), heap_new rfl⟩ ?_
                  clear cc cd eix
                  generalize wc.heap.size = A2
                  clear Z2
                  rintro W2 ⟨Z2, o2⟩
                  have a1 : W2.cell? ⟨A, 1, none⟩ = some (.string key) := cell_of Z2.act 1
                  have C1 := adds_is Z2.t.s2 hL key hkey hLa false hPL.full
                  go_wp2_with (first | (go_at_call 24; refine C1.mono ?_; clear C1; rintro e w6 ⟨rfl, k6, s6⟩; have Z3 := Z2.two k6 s6; have o3 := k6.at o2 (not_blocks Z2.t.s2 o2 (by simp) (by simp)); have a2 : w6.cell? ⟨A2, 1, none⟩ = some (.string key2) := cell_of o3 1; have C2 := adds_is Z3.t.s3 hM key2 hkey2 hMa false hPM.full) | (go_at_call 24; refine C2.mono ?_; clear C2; rintro e w7 ⟨rfl, k7, s7⟩; have Z4 := Z3.t.three k7 s7))
                  go_roundw
                  case rel =>
                    have hPL2 := hPL.add
                    rw [Hgk.out] at hPL2
                    exact ⟨k + 1, m2, V2, K1, L.add key.data.toList, M.add key2.data.toList, by omega, rfl, rfl, by go_num, hK1, hKb1, hKs1, hLow1, HV1.out, hL.add _ hLa, hPL2, hM.add _ hMa, hPM2, Z4⟩
                  all_goals (simp [intOf]; omega)
          · obtain rfl : k = len := by omega
            have hsm : ∀ r i, L.c r i = M.c r i := fun r i => hPL.same hPM r i
            have HS := Lib.hid hsm
            have hnn : M.n = L.n := by rw [hPL.en, hPM.en]
            have hn9 := hL.n16.2.1
            clear hsm hPL hPM HV hLow hKs hKa hK H300
            go_wp2_with fail
            go_loopw [25] (fun x wq => ∃ j : Nat, j ≤ 4 ∧ x = .int .i64 (j : Nat) ∧ Ts w p G Q K q H P L u I J M m V wq) (fun x _ => 5 - (intOf x).toNat)
            case atStart => exact ⟨0, by omega, rfl, Z0⟩
            case round =>
              obtain ⟨j, hj, rfl, Z⟩ := hrel
              clear Z0
              by_cases hj4 : j < 4
              · have R1 := row_is Z.s2 hL hj4
                go_wp2_with (first | (go_at_call 17; refine R1.mono ?_; clear R1; rintro e w5 ⟨ga, rfl, b5, -, n5⟩; have Z5 := Z.below b5; have R2 := row_is Z5.s3 hM hj4; rw [hnn] at R2) | (go_at_call 17; refine R2.mono ?_; clear R2; rintro e w6 ⟨gb, rfl, b6, -, n6⟩; have Z6 := Z5.below b6; have n7 := n5.keep (Keeps.of_below (S := []) b6) (by simp); have n8 := n6.congr (f' := fun i => ((L.c j i : Nat) : Int)) (fun i _ => by rw [HS.out]); have R3 := same_is n7 n8 hn9) | (go_at_call 25; refine R3.mono ?_; clear R3; rintro e w7 ⟨rfl, b7⟩; have Z7 := Z6.below b7))
                go_roundw
                case rel => exact ⟨j + 1, by omega, by go_num, Z7⟩
                all_goals (simp [intOf]; omega)
              · obtain rfl : j = 4 := by omega
                go_wp2_with (first | (go_at_call 10; refine (known_any _).mono ?_; rintro e v2 ⟨rfl, b3⟩))
                go_ret
                exact ⟨rfl, Z.bel.trans (b3.mono Z.bel.size)⟩
  · have hno : 0 ≤ a0 → a0 ≤ 65536 → widthB a0.toNat = true → a2 < 0 ∨ 16777216 < a2 := by
      intro q1 q2 q3
      by_cases q : 0 ≤ a2 ∧ a2 ≤ 16777216
      · exact absurd ⟨q1, q3, q.1, q.2⟩ hg
      · omega
    clear hg
    have R8 := fun w => refNew_no a0 a2 a1 hno w
    clear hno hb
    go_enter Try.func7, Try.ntmps7
    go_wp2_with (first | (go_at_call 8; refine (R8 _).mono ?_; rintro e v1 ⟨rfl, b1⟩; have b2 := b1.alloc b1.size (.cells #[.int .i64 0, .int .i64 0, .int .i64 0, .int .u64 0, .slice none 0 0, .slice none 0 0, .slice none 0 0, .slice none 0 0] 27)) | (go_at_call 10; refine (known_any _).mono ?_; rintro e v5 ⟨rfl, b7⟩))
    go_ret
    exact ⟨rfl, b2.trans (b7.mono b2.size)⟩
end Go.Proofs.Ytffniljefbpoiaa
