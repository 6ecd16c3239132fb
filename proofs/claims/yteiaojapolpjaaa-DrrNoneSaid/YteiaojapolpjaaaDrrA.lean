/- DrrNone, part 1: what each call of the round that is not there, or was not made, does. -/
import Derived.Test.YteiaojapolpjaaaRows
import Derived.Test.YteiaojapolpjaaaWb
import Derived.Deep.QuietTactic
import Derived.BigQuiet
namespace Go.Proofs.Yteiaojapolpjaaa
open Go.RowKit Go.WB

theorem none_nil (w : World) : Calls Try.prog 28 #[.pointer none] w fun e w' => e = .returned (.bool true) ∧ w = w' := by
  go_enter Try.func28, Try.ntmps28
  go_wp2
  go_ret
  exact ⟨rfl, rfl⟩

theorem none_at (b : Nat) (m : Bool) (w : World) (hc : w.cell? ⟨b, 4, none⟩ = some (.bool m)) : Calls Try.prog 28 #[.pointer (some ⟨b, 0, none⟩)] w fun e w' => e = .returned (.bool (!m)) ∧ w = w' := by
  go_enter Try.func28, Try.ntmps28
  go_wp2
  go_ret
  exact ⟨rfl, rfl⟩

/-- A round that is not there, or was not made. -/
def NoRound (w : World) (p : Value) : Prop := p = .pointer none ∨ ∃ b, p = .pointer (some ⟨b, 0, none⟩) ∧ w.cell? ⟨b, 4, none⟩ = some (.bool false)
theorem NoRound.below {B : Nat} {w w' : World} {p : Value} (h : NoRound w p) (hB : w.heap.size ≤ B) (hb : Below B w w') : NoRound w' p := by
  rcases h with rfl | ⟨b, rfl, hc⟩
  · exact .inl rfl
  · have hlt : b < w.heap.size := World.block_lt_of_cell? w _ hc
    exact .inr ⟨b, rfl, (hb.cell (p := ⟨b, 4, none⟩) (by show b < B; omega)).trans hc⟩

theorem none_no (p : Value) (w : World) (h : NoRound w p) : Calls Try.prog 28 #[p] w fun e w' => e = .returned (.bool true) ∧ w = w' := by
  rcases h with rfl | ⟨b, rfl, hc⟩
  · exact none_nil w
  · exact none_at b false w hc

theorem turn_no (p : Value) (w : World) (h : NoRound w p) : Calls Try.prog 8 #[p] w fun e w' => e = .returned (.tuple #[.string ⟨#[]⟩, .bool false, .bool false]) ∧ w = w' := by
  go_enter Try.func8, Try.ntmps8
  go_wp2_with (first | (go_at_call 28; refine (none_no _ _ h).mono ?_; rintro e w' ⟨rfl, rfl⟩))
  go_ret3
  exact ⟨rfl, rfl⟩
theorem add_no (p : Value) (k : ByteArray) (n : Int) (w : World) (h : NoRound w p) : Calls Try.prog 9 #[p, .string k, .int .i64 n] w fun e w' => e = .returned (.int .i64 1) ∧ w = w' := by
  go_enter Try.func9, Try.ntmps9
  go_wp2_with (first | (go_at_call 28; refine (none_no _ _ h).mono ?_; rintro e w' ⟨rfl, rfl⟩))
  go_ret
  exact ⟨rfl, rfl⟩
theorem remove_no (p : Value) (k : ByteArray) (w : World) (h : NoRound w p) : Calls Try.prog 10 #[p, .string k] w fun e w' => e = .returned (.int .i64 1) ∧ w = w' := by
  go_enter Try.func10, Try.ntmps10
  go_wp2_with (first | (go_at_call 28; refine (none_no _ _ h).mono ?_; rintro e w' ⟨rfl, rfl⟩))
  go_ret
  exact ⟨rfl, rfl⟩
theorem quantum_no (p : Value) (k : ByteArray) (n : Int) (w : World) (h : NoRound w p) : Calls Try.prog 11 #[p, .string k, .int .i64 n] w fun e w' => e = .returned (.int .i64 1) ∧ w = w' := by
  go_enter Try.func11, Try.ntmps11
  go_wp2_with (first | (go_at_call 28; refine (none_no _ _ h).mono ?_; rintro e w' ⟨rfl, rfl⟩))
  go_ret
  exact ⟨rfl, rfl⟩
theorem deficit_no (p : Value) (k : ByteArray) (w : World) (h : NoRound w p) : Calls Try.prog 12 #[p, .string k] w fun e w' => e = .returned (.int .i64 0) ∧ w = w' := by
  go_enter Try.func12, Try.ntmps12
  go_wp2_with (first | (go_at_call 28; refine (none_no _ _ h).mono ?_; rintro e w' ⟨rfl, rfl⟩))
  go_ret
  exact ⟨rfl, rfl⟩
theorem keys_no (p : Value) (w : World) (h : NoRound w p) : Calls Try.prog 13 #[p] w fun e w' => e = .returned (.slice none 0 0) ∧ w = w' := by
  go_enter Try.func13, Try.ntmps13
  go_wp2_with (first | (go_at_call 28; refine (none_no _ _ h).mono ?_; rintro e w' ⟨rfl, rfl⟩))
  go_ret
  exact ⟨rfl, rfl⟩
theorem copy_no (p : Value) (w : World) (h : NoRound w p) : Calls Try.prog 14 #[p] w fun e w' => e = .returned (.pointer none) ∧ w = w' := by
  go_enter Try.func14, Try.ntmps14
  go_wp2_with (first | (go_at_call 28; refine (none_no _ _ h).mono ?_; rintro e w' ⟨rfl, rfl⟩))
  go_ret
  exact ⟨rfl, rfl⟩
theorem serve_no (p : Value) (f : Fn) (x y : Array Value) (w : World) (h : NoRound w p) : Calls Try.prog 6 #[p, .func f x y] w fun e w' => e = .returned (.tuple #[.string ⟨#[]⟩, .bool false]) ∧ Below w.heap.size w w' := by
  have h1 : NoRound (w.alloc (.cells #[.func f x y] 30)) p := h.below (Nat.le_refl _) ((Below.refl _ _).alloc (Nat.le_refl _) _)
  go_enter Try.func6, Try.ntmps6
  go_wp2_with fail
  go_step3
  go_wp2_with (first | (go_at_call 28; refine (none_no _ _ h1).mono ?_; rintro e w' ⟨rfl, rfl⟩))
  rw [Exit.noGoto_ret]
  go_ret2
  exact ⟨rfl, (Below.refl _ _).alloc (Nat.le_refl _) _⟩
/-- 'head' of any list: a function value, and a new block. -/
theorem head_any (a : Option Addr) (n c : Nat) (w : World) : Calls Try.prog 7 #[.slice a n c] w fun e w' => e = .returned (.func (Fn.func 31) #[] #[.pointer (some ⟨w.heap.size, 0, none⟩)]) ∧ w' = w.alloc (.cells #[.slice a n c] 34) := by
  go_enter Try.func7, Try.ntmps7
  go_wp2
  go_ret
  exact ⟨rfl, rfl⟩
end Go.Proofs.Yteiaojapolpjaaa
