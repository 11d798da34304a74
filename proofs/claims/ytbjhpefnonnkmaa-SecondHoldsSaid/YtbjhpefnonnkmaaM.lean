/-
  The contracts of slices.Clone, maps.Clone and second.Copy.
-/
import Derived.Test.YtbjhpefnonnkmaaK
import Derived.Laws.Externs
namespace Go.Proofs.Ytbjhpefnonnkmaa
open Go.ChangeShapes Go.WideShapes Go.ChangeAt Go.RowKit
set_option linter.unusedVariables false

theorem run_equalIn_slice_nil (w : World) (d : Nat) (a : Addr) (n c : Nat) : (Op.equalIn (d + 1) 54 (.slice (some a) n c) (.slice none 0 0)).run Try.prog w = .ok false w := by
  simp [Op.equalIn, run_underlying Try.underlying54]
theorem run_eql_slice_nil (w : World) (a : Addr) (n c : Nat) : (binOp .eql 54 (.slice (some a) n c) (.slice none 0 0)).run Try.prog w = .ok (.bool false) w := by
  simp only [binOp]
  simp [show Op.equal 54 (.slice (some a) n c) (.slice none 0 0) = Op.equalIn (9999 + 1) 54 (.slice (some a) n c) (.slice none 0 0) from rfl, run_equalIn_slice_nil w 9999 a n c]
/-- A row of its own is handed back. -/
def Cloned (w : World) (n : Nat) (R : List Pl) (e : Ending) (w' : World) : Prop :=
  ∃ g cap, e = .returned (.slice (some ⟨g, 0, none⟩) n cap) ∧ Below w.heap.size w w' ∧ Row w' 63 g cap R ∧ w.heap.size ≤ g
theorem clone_is {r cap n : Nat} {R : List Pl} {w : World} (s : Row w 63 r cap R) (hn : R.length = n) (h0 : 0 < n) (hl : n ≤ 1024) :
    Calls Try.prog 34 #[.slice (some ⟨r, 0, none⟩) n cap] w fun e w' => Cloned w n R e w' := by
  obtain ⟨i63, hi, hz, hs, hb⟩ := info_parts info63
  have lt := s.lt
  have hq := fun w => run_eql_slice_nil w ⟨r, 0, none⟩ n cap
  go_enter Try.func34, Try.ntmps34
  go_wp2_with (first | (at_builtin; refine wpList_append_lies _ rfl (.tmp 5) (.tmp 6) 54 rfl w.heap.size 63 i63 _ 3 8 Try.underlying54 hi hz hs hb rfl (by decide) (.slice (some ⟨w.heap.size, 0, none⟩) 0 0) 0 [] rfl (World.ownsRow_made _ _ 0 (Nat.le_refl _) (by unfold maxLen; omega) (by simp)) ⟨r, 0, none⟩ n cap (ringL R) rfl (by rw [ringL_length, hn]) ((s.alloc _).owns.cells rfl) ringL_one h0 (by unfold maxLen; omega) (by omega) (by simp) _ rfl ?_; intro g cap2 w1 o1 gr1 pl1 lt1))
  go_ret
  have o2 : w1.ownsRow w.heap.size 63 3 (.slice (some ⟨g, 0, none⟩) n cap2) n (ringL R) := by simpa using o1
  refine ⟨g, cap2, by simp, below_grown ((Below.refl _ _).alloc (Nat.le_refl _) _) (by simp) gr1 (by intro i hi; simp [Value.ownBlock] at hi; omega), Row.of_owns hn (own_base o2), (o2.lt g rfl).1⟩

theorem run_typeAssert_map (w : World) (v : Value) : (Instr.typeAssert (.iface 55 v) 20 55 false).run Try.prog w = .ok v w := by
  simp [Instr.typeAssert, run_underlying Try.underlying55, go_sem, Result.andThen]
theorem run_maps_clone {w : World} {r : Nat} {es : Array MapEntry} {clock : Nat} (t : TypeId) (hb : w.heap[r]? = some (.map es clock)) :
    (Extern.MapsClone.clone #[.iface t (.map (some r))]).run Try.prog w = .ok (.iface t (.map (some w.heap.size))) (w.alloc (.map es clock)) := by
  have e : Extern.MapsClone.clone #[.iface t (.map (some r))] = (getObj r >>= fun o => match o with
      | .map entries clock => (newObj (.map entries clock) >>= fun n => pure (.iface t (.map (some n))))
      | _ => stuck "maps.clone: a map expected") := rfl
  rw [e]
  simp [MapKept.run_getObj_map hb, Result.andThen, go_sem]
/-- A map of its own is handed back. -/
def MCloned (w : World) (L : List (Int × Int)) (e : Ending) (w' : World) : Prop :=
  ∃ m, e = .returned (.map (some m)) ∧ Below w.heap.size w w' ∧ Mp w' m L ∧ w.heap.size ≤ m
theorem mclone_is {m : Nat} {L : List (Int × Int)} {w : World} (s : Mp w m L) :
    Calls Try.prog 35 #[.map (some m)] w fun e w' => MCloned w L e w' := by
  obtain ⟨es, clock, hb, hv⟩ := s
  have hq := fun w => run_eql_map_nil w (some m)
  go_enter Try.func35, Try.ntmps35
  go_wp2
  rw [run_callFunc_extern Try.func37 (by kernel_rfl) (by kernel_rfl) (by kernel_rfl) (e := Extern.MapsClone.clone) (by kernel_rfl), run_maps_clone 55 hb]
  simp only [Result.andThen]
  rw [Oper.upon_value]
  go_wp2
  rw [run_typeAssert_map]
  simp only [Result.andThen]
  rw [Oper.upon_value]
  go_wp2
  go_ret
  exact ⟨w.heap.size, rfl, (Below.refl _ _).alloc (Nat.le_refl _) _, ⟨es, clock, heap_new rfl, hv⟩, Nat.le_refl _⟩
end Go.Proofs.Ytbjhpefnonnkmaa
