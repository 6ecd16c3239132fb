/- Ether, part 10: known, walked. -/
import Derived.Test.YteiaojapolpjaaaDoorEthI
import Derived.ChangeKeysEq
namespace Go.Proofs.YteiaojapolpjaaaDoor
open Go.RowKit Go.WB

def ethZ : Value := .agg #[.int .u8 0, .int .u8 0, .int .u8 0, .int .u8 0, .int .u8 0, .int .u8 0, .int .u8 0, .int .u8 0, .int .u8 0, .int .u8 0, .int .u8 0, .int .u8 0, .int .u16 0]
set_option maxHeartbeats 1000000 in
set_option maxRecDepth 100000 in
theorem read_short (p : Option Addr) (n c : Nat) (w : World) (h1 : n < 14) : Calls Tryd.prog 11 #[.slice p n c] w fun e w' => e = .returned (.tuple #[ethZ, .slice none 0 0, .int .i64 4]) ∧ Below w.heap.size w w' := by
  have b0 : (n : Int) ≤ 1600 := by omega
  have b1 : (n : Int) < 14 := by omega
  have b2 : (0 : Int) ≤ n := by omega
  go_enter Tryd.func11, Tryd.ntmps11
  go_wp2_with fail
  refine bodyPost_ret (v := .tuple #[ethZ, .slice none 0 0, .int .i64 4]) (by simp [results, Tryd.results11, go_sem, ethZ]) rfl ⟨rfl, ?_⟩
  repeat' first
    | exact Below.refl _ _
    | refine Below.setCell ?_ ?_ _
    | refine Below.alloc ?_ ?_ _
    | exact Nat.le_refl _
    | (simp; done)
    | (simp; omega)

theorem idx52_0 (W : World) : (Instr.index 52 (.agg #[.int .u16 2048, .int .u16 34525]) (.int .i64 0)).run Tryd.prog W = .ok (.int .u16 2048) W := by kernel_rfl
theorem idx52_1 (W : World) : (Instr.index 52 (.agg #[.int .u16 2048, .int .u16 34525]) (.int .i64 1)).run Tryd.prog W = .ok (.int .u16 34525) W := by kernel_rfl
set_option maxHeartbeats 1000000 in
set_option maxRecDepth 100000 in
theorem ours_a (w : World) : Calls Tryd.prog 15 #[.int .u16 2048] w fun e w' => e = .returned (.bool true) ∧ Below w.heap.size w w' := by
  have i0 := idx52_0
  have i1 := idx52_1
  go_enter Tryd.func15, Tryd.ntmps15
  go_wp2_with fail
  refine wp_loop_rounds 3 ?_
  rw [rounds_succ]
  go_wp2_with fail
  rw [rounds_succ]
  go_wp2_with fail
  rw [rounds_succ]
  go_wp2_with fail
  go_ret
  exact ⟨rfl, Below.refl _ _⟩
set_option maxHeartbeats 1000000 in
set_option maxRecDepth 100000 in
theorem ours_b (k : Int) (w : World) (h : k ≠ 2048) : Calls Tryd.prog 15 #[.int .u16 k] w fun e w' => e = .returned (.bool (34525 == k)) ∧ Below w.heap.size w w' := by
  have hb : ((2048 : Int) == k) = false := by rw [beq_eq_false_iff_ne]; omega
  have i0 := idx52_0
  have i1 := idx52_1
  go_enter Tryd.func15, Tryd.ntmps15
  go_wp2_with fail
  refine wp_loop_rounds 3 ?_
  rw [rounds_succ]
  go_wp2_with fail
  rw [rounds_succ]
  go_wp2_with fail
  rw [rounds_succ]
  go_wp2_with fail
  go_ret
  exact ⟨rfl, Below.refl _ _⟩

theorem make_u8 (W : World) (c : Nat) (hc : c ≤ 100000) : (Instr.makeSlice 32 (.int .i64 (c : Int)) (.int .i64 (c : Int))).run Tryd.prog W = .ok (.slice (some ⟨W.heap.size, 0, none⟩) c c) (W.alloc (.cells (Array.replicate c (.int .u8 0)) 5)) := by
  have h := run_make (P := Tryd.prog) W 32 5 Tryd.t5 (.int .u8 0) Tryd.underlying32 (by kernel_rfl) (by kernel_rfl) .i64 .i64 c c (by omega) (Int.le_refl _) (by show ((1 : Nat) : Int) * c ≤ _; omega) (by omega)
  have e : madeCells (Value.int .u8 0).cells (c * 1) = Array.replicate c (.int .u8 0) := by
    apply Array.ext
    · simp [madeCells]
    · intro i h1 h2
      simp [madeCells, Value.cells, Nat.mod_one]
  rw [h]
  show Result.ok (Value.slice _ _ _) (W.alloc (.cells (madeCells (Value.int .u8 0).cells (((c : Int).toNat) * 1)) 5)) = _
  rw [Int.toNat_natCast, e]
theorem eq22 (a b c d e f : Int) (W : World) : (Op.equalIn 10000 22 (.agg #[.int .u8 a, .int .u8 b, .int .u8 c, .int .u8 d, .int .u8 e, .int .u8 f]) (.agg #[.int .u8 a, .int .u8 b, .int .u8 c, .int .u8 d, .int .u8 e, .int .u8 f])).run Tryd.prog W = .ok true W := by
  have hu : Tryd.prog.underlying 22 = some (.array 6 5) := Tryd.underlying22
  have hi : Tryd.prog.info? 5 = some Tryd.t5 := by kernel_rfl
  have hc : Tryd.prog.cellsOf 5 = 1 := by kernel_rfl
  rw [run_equalIn_array W 9999 _ _ hu hi, hc]
  have hr : List.range 6 = [0, 1, 2, 3, 4, 5] := rfl
  rw [hr]
  simp [Op.eqItems, go_sem, Tryd.underlying5]
def ab : ByteArray := ⟨#[48, 50, 58, 48, 48, 58, 48, 48, 58, 48, 48, 58, 48, 48, 58, 97, 98]⟩
def AB : ByteArray := ⟨#[48, 50, 58, 48, 48, 58, 48, 48, 58, 48, 48, 58, 48, 48, 58, 65, 66]⟩
theorem txt_ab : txt ⟨2, 0, 0, 0, 0, 171⟩ = ab := by decide +kernel
theorem hexc_B : ∀ k : Fin 16, hexc k.val ≠ 66 := by decide +kernel
theorem pv_ab : pv ab (some ⟨2, 0, 0, 0, 0, 171⟩) := ⟨by show 2 < 256 ∧ 0 < 256 ∧ 0 < 256 ∧ 0 < 256 ∧ 0 < 256 ∧ 171 < 256; decide, txt_ab.symm⟩
theorem pv_AB : pv AB none := by
  intro x hx h
  have e := congrArg (fun s : ByteArray => s.data.toList[16]?) h
  have e : AB.data.toList[16]? = (txt x).data.toList[16]? := e
  rw [txt_list] at e
  have e2 : (66 : UInt8) = hexc (x.f % 16) := Option.some.inj e
  exact hexc_B ⟨x.f % 16, by omega⟩ e2.symm

set_option maxHeartbeats 1000000 in
set_option maxRecDepth 100000 in
theorem known_any (w : World) (hE : Env w) : Calls Tryd.prog 6 #[] w fun e w' => e = .returned (.bool true) ∧ Below w.heap.size w w' := by
  have H1 : Calls Tryd.prog 7 #[.string ⟨#[48, 50, 58, 48, 48, 58, 48, 48, 58, 48, 48, 58, 48, 48, 58, 97, 98]⟩] w (PPost (some ⟨2, 0, 0, 0, 0, 171⟩) w) := parse_pv ab _ w pv_ab (by decide) hE
  have H2 : ∀ w, Env w → Calls Tryd.prog 7 #[.string ⟨#[48, 50, 58, 48, 48, 58, 48, 48, 58, 48, 48, 58, 48, 48, 58, 65, 66]⟩] w (PPost none w) := fun w hE => parse_pv AB _ w pv_AB (by decide) hE
  go_enter Tryd.func6, Tryd.ntmps6
  go_wp2_with fail
  refine H1.mono ?_
  rintro e w1 ⟨rfl, b1⟩
  have E1 := hE.below b1
  clear H1
  unfold pr Six.vals
  go_wp2_with fail
  have c1 : Below w.heap.size w (w1.alloc (.cells #[.int .u8 2, .int .u8 0, .int .u8 0, .int .u8 0, .int .u8 0, .int .u8 171] 22)) := Below.alloc b1 b1.size _
  have X1 : Blk (w1.alloc (.cells #[.int .u8 2, .int .u8 0, .int .u8 0, .int .u8 0, .int .u8 0, .int .u8 171] 22)) w1.heap.size 22 #[.int .u8 2, .int .u8 0, .int .u8 0, .int .u8 0, .int .u8 0, .int .u8 171] := Blk.new _ _ _
  have E2 := hE.below c1
  generalize (w1.alloc (.cells #[.int .u8 2, .int .u8 0, .int .u8 0, .int .u8 0, .int .u8 0, .int .u8 171] 22)) = w2 at *
  obtain ⟨B, hB⟩ : ∃ B, w1.heap.size = B := ⟨_, rfl⟩
  rw [hB] at X1 ⊢
  clear hB E1 b1
  refine (H2 _ E2).mono ?_
  rintro e w3 ⟨rfl, b2⟩
  have c2 := c1.trans (b2.mono c1.size)
  have X2 := X1.below b2 X1.lt
  clear H2 E2 c1 X1 b2
  unfold pr
  have hm := fun W => make_u8 W 13 (by omega)
  have hm' : ∀ W : World, (Instr.makeSlice 32 (.int .i64 13) (.int .i64 13)).run Tryd.prog W = .ok (.slice (some ⟨W.heap.size, 0, none⟩) 13 13) (W.alloc (.cells (Array.replicate 13 (.int .u8 0)) 5)) := hm
  clear hm
  go_wp2_with fail
  have c3 : Below w.heap.size w ((w3.alloc (.cells #[.int .u8 0, .int .u8 0, .int .u8 0, .int .u8 0, .int .u8 0, .int .u8 0] 22)).alloc (.cells (Array.replicate 13 (.int .u8 0)) 5)) := (c2.alloc c2.size _).alloc (by have := c2.size; simp; omega) _
  have X3 := (X2.alloc (.cells #[.int .u8 0, .int .u8 0, .int .u8 0, .int .u8 0, .int .u8 0, .int .u8 0] 22)).alloc (.cells (Array.replicate 13 (.int .u8 0)) 5)
  generalize ((w3.alloc (.cells #[.int .u8 0, .int .u8 0, .int .u8 0, .int .u8 0, .int .u8 0, .int .u8 0] 22)).alloc (.cells (Array.replicate 13 (.int .u8 0)) 5)) = w4 at *
  generalize w3.heap.size = D at *
  refine (read_short _ 13 13 _ (by omega)).mono ?_
  rintro e w5 ⟨rfl, b3⟩
  have c4 := c3.trans (b3.mono c3.size)
  have X4 := X3.below b3 X3.lt
  clear hm' c2 X2 c3 X3 b3
  unfold ethZ
  have c5 : Below w.heap.size w (w5.alloc (.cells #[.int .u8 0, .int .u8 0, .int .u8 0, .int .u8 0, .int .u8 0, .int .u8 0, .int .u8 0, .int .u8 0, .int .u8 0, .int .u8 0, .int .u8 0, .int .u8 0, .int .u16 0] 31)) := c4.alloc c4.size _
  have X5 := X4.alloc (.cells #[.int .u8 0, .int .u8 0, .int .u8 0, .int .u8 0, .int .u8 0, .int .u8 0, .int .u8 0, .int .u8 0, .int .u8 0, .int .u8 0, .int .u8 0, .int .u8 0, .int .u16 0] 31)
  obtain ⟨q0, q1, q2, q3, q4, q5⟩ := SixBlk.cells (a := 2) (b := 0) (c := 0) (d := 0) (e := 0) (f := 171) X5
  have E5 := hE.below c5
  clear c4 X4
  have heq := eq22 2 0 0 0 0 171
  go_wp2_with fail
  have hT : Calls Tryd.prog 9 #[.agg #[.int .u8 2, .int .u8 0, .int .u8 0, .int .u8 0, .int .u8 0, .int .u8 171]] (w5.alloc (.cells #[.int .u8 0, .int .u8 0, .int .u8 0, .int .u8 0, .int .u8 0, .int .u8 0, .int .u8 0, .int .u8 0, .int .u8 0, .int .u8 0, .int .u8 0, .int .u8 0, .int .u16 0] 31)) fun en w' => en = .returned (.string (txt ⟨2, 0, 0, 0, 0, 171⟩)) ∧ Below (w5.alloc (.cells #[.int .u8 0, .int .u8 0, .int .u8 0, .int .u8 0, .int .u8 0, .int .u8 0, .int .u8 0, .int .u8 0, .int .u8 0, .int .u8 0, .int .u8 0, .int .u8 0, .int .u16 0] 31)).heap.size (w5.alloc (.cells #[.int .u8 0, .int .u8 0, .int .u8 0, .int .u8 0, .int .u8 0, .int .u8 0, .int .u8 0, .int .u8 0, .int .u8 0, .int .u8 0, .int .u8 0, .int .u8 0, .int .u16 0] 31)) w' := text_any 2 0 0 0 0 171 _ E5 (by omega) (by omega) (by omega) (by omega) (by omega) (by omega)
  rw [txt_ab] at hT
  refine hT.mono ?_
  rintro e w6 ⟨rfl, b6⟩
  have c6 := c5.trans (b6.mono c5.size)
  clear hT heq q0 q1 q2 q3 q4 q5 X5 E5 c5 b6
  have hbq : (ab.toList == ([48, 50, 58, 48, 48, 58, 48, 48, 58, 48, 48, 58, 48, 48, 58, 97, 98] : List UInt8)) = true := by decide +kernel
  go_wp2_with fail
  refine (ours_a _).mono ?_
  rintro e w7 ⟨rfl, b7⟩
  have c7 := c6.trans (b7.mono c6.size)
  clear c6 b7
  go_wp2_with fail
  go_ret
  exact ⟨rfl, c7⟩
end Go.Proofs.YteiaojapolpjaaaDoor
