/- DrrNone, part 4: a key's cost, and the turn that goes on. -/
import Derived.Test.YteiaojapolpjaaaDrrB
import Derived.RegionTactic
import Derived.BigRegion
namespace Go.Proofs.Yteiaojapolpjaaa
open Go.RowKit Go.WB
attribute [local go_sem ↓] Go.wp_at_zero Go.wp_at_succ

/-- 'on' at two keys. -/
def OnPost (r : Nat) (ks qs ds : Value) (t' : Int) (w : World) (e : Ending) (w' : World) : Prop :=
  e = .returned (.tuple #[]) ∧ Blk w' r 25 #[ks, qs, ds, .int .i64 t', .bool true, .bool false] ∧ Mods (fun k => k = r) w w'

set_option maxHeartbeats 1000000 in
theorem on_two (r : Nat) (a : Option Addr) (c : Nat) (qs ds : Value) (t t' : Int) (bg : Bool) (w : World) (ht : (t = 0 ∧ t' = 1) ∨ (t = 1 ∧ t' = 0)) (hr : Blk w r 25 #[.slice a 2 c, qs, ds, .int .i64 t, .bool true, .bool bg]) :
    Calls Try.prog 30 #[.pointer (some ⟨r, 0, none⟩)] w (OnPost r (.slice a 2 c) qs ds t' w) := by
  have c0 := hr.cell 0
  have c3 := hr.cell 3
  have c5 := hr.cell 5
  have f3 := hr.frozen 3
  have f5 := hr.frozen 5
  simp only [List.getElem?_toArray, List.getElem?_cons_zero, List.getElem?_cons_succ] at c0 c3 c5
  rcases ht with ⟨rfl, rfl⟩ | ⟨rfl, rfl⟩
  all_goals
    go_enter Try.func30, Try.ntmps30
    go_wp2
    go_region
    all_goals go_end0
    all_goals (refine ⟨rfl, ?_, ?_⟩)
  all_goals first
    | exact (((Mods.refl (fun k => k = r) w).setCell (p := ⟨r, 3, none⟩) (.inl rfl) _).setCell (p := ⟨r, 5, none⟩) (.inl rfl) _).drew
    | (have h1 := ((hr.set_ 3 (.int .i64 1)).set_ 5 (.bool false)).drew; simpa using h1)
    | (have h1 := ((hr.set_ 3 (.int .i64 0)).set_ 5 (.bool false)).drew; simpa using h1)


/-- What each key's frame costs: a's 1000, b's 600. -/
def CostOf (k : ByteArray) (n : Int) : Prop := (k = ⟨#[97]⟩ ∧ n = 1000) ∨ (k = ⟨#[98]⟩ ∧ n = 600)

set_option maxHeartbeats 1000000 in
theorem head_two (k : ByteArray) (n : Int) (h lb : Nat) (w : World) (hk : CostOf k n) (hh : Blk w h 34 #[.slice (some ⟨lb, 0, none⟩) 2 2]) (hl : Blk w lb 33 #[.string ⟨#[97]⟩, .int .i64 1000, .string ⟨#[98]⟩, .int .i64 600]) :
    Calls Try.prog 31 #[.string k, .pointer (some ⟨h, 0, none⟩)] w fun e w' => e = .returned (.tuple #[.int .i64 n, .bool true]) ∧ Below w.heap.size w w' := by
  have c0 := hh.cell 0
  have l0 := hl.cell 0
  have l1 := hl.cell 1
  have l2 := hl.cell 2
  have l3 := hl.cell 3
  simp only [List.getElem?_toArray, List.getElem?_cons_zero, List.getElem?_cons_succ] at c0 l0 l1 l2 l3
  have hlt := hl.lt
  rcases hk with ⟨rfl, rfl⟩ | ⟨rfl, rfl⟩
  · go_enter Try.func31, Try.ntmps31
    go_wp2
    refine wp_loop_rounds 2 ?_
    rw [rounds_succ]
    go_wp2
    go_quiet (fail)
    go_wp2
    go_ret2
    exact ⟨rfl, by rename_i nq; exact below_drewN ((Below.refl _ _).alloc (Nat.le_refl _) _) _⟩
  · go_enter Try.func31, Try.ntmps31
    go_wp2
    refine wp_loop_rounds 2 ?_
    rw [rounds_succ]
    go_wp2
    rw [rounds_succ]
    go_wp2
    go_quiet (fail)
    go_wp2
    go_ret2
    exact ⟨rfl, by exact below_drewN (((Below.refl _ _).alloc (Nat.le_refl _) _).alloc (by simp) _) _⟩

set_option maxHeartbeats 1000000 in
theorem cost_two (k : ByteArray) (n : Int) (sb h lb : Nat) (w : World) (hk : CostOf k n) (hs : Blk w sb 30 #[.func (Fn.func 31) #[] #[.pointer (some ⟨h, 0, none⟩)]]) (hh : Blk w h 34 #[.slice (some ⟨lb, 0, none⟩) 2 2])
    (hl : Blk w lb 33 #[.string ⟨#[97]⟩, .int .i64 1000, .string ⟨#[98]⟩, .int .i64 600]) :
    Calls Try.prog 29 #[.string k, .pointer (some ⟨sb, 0, none⟩)] w fun e w' => e = .returned (.int .i64 n) ∧ Below w.heap.size w w' := by
  have c0 := hs.cell 0
  simp only [List.getElem?_toArray, List.getElem?_cons_zero, List.getElem?_cons_succ] at c0
  have hn : 1 ≤ n ∧ n ≤ 1600 := by rcases hk with ⟨_, rfl⟩ | ⟨_, rfl⟩ <;> omega
  obtain ⟨hn1, hn2⟩ := hn
  go_enter Try.func29, Try.ntmps29
  go_wp2_with (first | (go_at_call 31; refine (head_two _ _ _ _ _ hk hh hl).mono ?_; rintro e w' ⟨rfl, hb⟩))
  go_ret
  exact ⟨rfl, hb⟩

end Go.Proofs.Yteiaojapolpjaaa
