/- DrrNone, part 9: the law, walked. -/
import Derived.Test.YteiaojapolpjaaaDrrH
namespace Go.Proofs.Yteiaojapolpjaaa
open Go.RowKit Go.WB
attribute [local go_sem ↓] Go.wp_at_zero Go.wp_at_succ

/-- What the loop over the two rounds that are none keeps: the zero round, the list of the two, and all that stood before. -/
structure TwoAt (w0 W : World) (N : Nat) : Prop where
  z : Blk W N 25 #[.slice none 0 0, .slice none 0 0, .slice none 0 0, .int .i64 0, .bool false, .bool false]
  l : Blk W (N + 1) 26 #[.pointer none, .pointer (some ⟨N, 0, none⟩)]
  b : Below w0.heap.size w0 W
theorem TwoAt.below {w0 W W' : World} {N : Nat} (a : TwoAt w0 W N) (hb : Below W.heap.size W W') : TwoAt w0 W' N := ⟨a.z.below hb a.z.lt, a.l.below hb a.l.lt, a.b.trans (hb.mono a.b.size)⟩
theorem TwoAt.no0 {w0 W : World} {N : Nat} (_ : TwoAt w0 W N) : NoRound W (.pointer none) := .inl rfl
theorem TwoAt.no1 {w0 W : World} {N : Nat} (a : TwoAt w0 W N) : NoRound W (.pointer (some ⟨N, 0, none⟩)) := .inr ⟨N, rfl, a.z.cell 4⟩
theorem TwoAt.l0 {w0 W : World} {N : Nat} (a : TwoAt w0 W N) : W.cell? ⟨N + 1, 0, none⟩ = some (.pointer none) := a.l.cell 0
theorem TwoAt.l1 {w0 W : World} {N : Nat} (a : TwoAt w0 W N) : W.cell? ⟨N + 1, 1, none⟩ = some (.pointer (some ⟨N, 0, none⟩)) := a.l.cell 1

set_option maxHeartbeats 4000000 in
set_option maxRecDepth 100000 in
theorem law_walk (k : ByteArray) (n : Int) (w : World) : Calls Try.prog 3 #[.string k, .int .i64 n] w fun e w' => e = .returned (.bool true) ∧ Below w.heap.size w w' := by
  have hpe : ∀ (W : World), (binOp BinOp.neq 26 (Value.pointer none) (Value.pointer none)).run Try.prog W = .ok (.bool false) W := fun _ => by kernel_rfl
  go_enter Try.func3, Try.ntmps3
  go_wp2_with fail
  have A : TwoAt w ((w.alloc (.cells #[.slice none 0 0, .slice none 0 0, .slice none 0 0, .int .i64 0, .bool false, .bool false] 25)).alloc (.cells #[.pointer none, .pointer (some ⟨w.heap.size, 0, none⟩)] 26)) w.heap.size :=
    ⟨(Blk.new _ _ _).alloc _, Blk.newAt _ _ _ (by simp), ((Below.refl _ _).alloc (Nat.le_refl _) _).alloc (by simp) _⟩
  generalize ((w.alloc (.cells #[.slice none 0 0, .slice none 0 0, .slice none 0 0, .int .i64 0, .bool false, .bool false] 25)).alloc (.cells #[.pointer none, .pointer (some ⟨w.heap.size, 0, none⟩)] 26)) = W at *
  refine wp_loop_rounds 3 ?_
  rw [rounds_succ]
  have l0 := A.l0
  go_wp2_with fail
  refine (head_any _ _ _ _).mono ?_
  rintro e v0 ⟨rfl, hv0⟩
  have B0 : Below W.heap.size W v0 := by rw [hv0]; exact ((Below.refl _ _).alloc (Nat.le_refl _) _).alloc (by simp) _
  clear hv0 l0
  go_wp2_with fail
  refine (serve_no (.pointer none) _ _ _ _ ((A.no0).below (Nat.le_refl _) B0)).mono ?_
  rintro e V0 ⟨rfl, C0⟩
  have A1 := A.below (B0.trans (C0.mono B0.size))
  have no0 := A1.no0
  clear A B0 C0
  go_wp2_with (first | (go_at_call 8; refine (turn_no _ _ no0).mono ?_; rintro e w' ⟨rfl, rfl⟩) | (go_at_call 9; refine (add_no _ _ _ _ no0).mono ?_; rintro e w' ⟨rfl, rfl⟩) | (go_at_call 10; refine (remove_no _ _ _ no0).mono ?_; rintro e w' ⟨rfl, rfl⟩) | (go_at_call 11; refine (quantum_no _ _ _ _ no0).mono ?_; rintro e w' ⟨rfl, rfl⟩) | (go_at_call 12; refine (deficit_no _ _ _ no0).mono ?_; rintro e w' ⟨rfl, rfl⟩) | (go_at_call 13; refine (keys_no _ _ no0).mono ?_; rintro e w' ⟨rfl, rfl⟩) | (go_at_call 14; refine (copy_no _ _ no0).mono ?_; rintro e w' ⟨rfl, rfl⟩))
  clear no0
  rw [rounds_succ]
  have l1 := A1.l1
  go_wp2_with fail
  refine (head_any _ _ _ _).mono ?_
  rintro e v1 ⟨rfl, hv1⟩
  have B1 : Below V0.heap.size V0 v1 := by rw [hv1]; exact ((Below.refl _ _).alloc (Nat.le_refl _) _).alloc (by simp) _
  clear hv1 l1
  go_wp2_with fail
  refine (serve_no (.pointer (some ⟨w.heap.size, 0, none⟩)) _ _ _ _ ((A1.no1).below (Nat.le_refl _) B1)).mono ?_
  rintro e V1 ⟨rfl, C1⟩
  have A2 := A1.below (B1.trans (C1.mono B1.size))
  have no1 := A2.no1
  clear A1 B1 C1
  go_wp2_with (first | (go_at_call 8; refine (turn_no _ _ no1).mono ?_; rintro e w' ⟨rfl, rfl⟩) | (go_at_call 9; refine (add_no _ _ _ _ no1).mono ?_; rintro e w' ⟨rfl, rfl⟩) | (go_at_call 10; refine (remove_no _ _ _ no1).mono ?_; rintro e w' ⟨rfl, rfl⟩) | (go_at_call 11; refine (quantum_no _ _ _ _ no1).mono ?_; rintro e w' ⟨rfl, rfl⟩) | (go_at_call 12; refine (deficit_no _ _ _ no1).mono ?_; rintro e w' ⟨rfl, rfl⟩) | (go_at_call 13; refine (keys_no _ _ no1).mono ?_; rintro e w' ⟨rfl, rfl⟩) | (go_at_call 14; refine (copy_no _ _ no1).mono ?_; rintro e w' ⟨rfl, rfl⟩))
  clear no1
  rw [rounds_succ]
  have b0 := A2.b
  clear A2
  go_wp2_with fail
  refine (new_any _).mono ?_
  rintro e w1 ⟨rfl, hw1⟩
  obtain ⟨B, hB⟩ : ∃ B, B = V1.heap.size := ⟨_, rfl⟩
  have h1 : Rnd B w1 V1.heap.size 0 [] [] [] 0 false := by rw [hw1, hB]; exact rnd_new _ V1 (Nat.le_refl _)
  have b1 : Below w.heap.size w w1 := by rw [hw1]; exact b0.alloc b0.size _
  have hlt : w.heap.size ≤ B := by rw [hB]; exact b0.size
  clear hw1 b0
  rw [← hB] at h1 ⊢
  clear hB
  go_wp2_with fail
  refine (add_first B B 0 0 [] [] [] k 1600 0 false _ h1 (finds_none B _) (by omega) (by omega) (Nat.le_refl _) rfl (by omega) (by omega) (oneCells_strings []) (oneCells_ints []) (oneCells_ints [])).mono ?_
  rintro e w2 ⟨rfl, b2, h2⟩
  have c4 : w2.cell? ⟨B, 4, none⟩ = some (.bool true) := by
    obtain ⟨ka, kc, qa, qc, da, dc, _, hr, _⟩ := h2
    exact hr.cell 4
  have b3 := b1.trans (b2.mono hlt)
  clear h1 h2 b1 b2
  go_wp2_with fail
  refine (serve_nil _ _ _ rfl c4).mono ?_
  rintro e w3 ⟨rfl, b4⟩
  have b5 := b3.trans (b4.mono b3.size)
  clear c4 b3 b4
  go_wp2_with fail
  refine (known_yes _).mono ?_
  rintro e w4 ⟨rfl, b6⟩
  have b7 := b5.trans (b6.mono b5.size)
  clear b5 b6
  go_wp2_with fail
  go_ret
  exact ⟨rfl, b7⟩

end Go.Proofs.Yteiaojapolpjaaa
