/- Ether, part 6: the reference's text of an address. -/
import Derived.Test.YteiaojapolpjaaaDoorEthB
namespace Go.Proofs.YteiaojapolpjaaaDoor
open Go.RowKit Go.WB

def digs : ByteArray := ⟨#[48, 49, 50, 51, 52, 53, 54, 55, 56, 57, 97, 98, 99, 100, 101, 102]⟩
theorem digs_ext : ∀ k : Fin 16, digs.extract k.val (k.val + 1) = ⟨#[hexc k.val]⟩ := by decide +kernel

theorem digs_ext' (k : Nat) (h : k < 16) : digs.extract k (k + 1) = ⟨#[hexc k]⟩ := digs_ext ⟨k, h⟩
theorem rtxt_eq (a b c d e f : Nat) (h0 : a < 256) (h1 : b < 256) (h2 : c < 256) (h3 : d < 256) (h4 : e < 256) (h5 : f < 256) :
    (⟨#[]⟩ : ByteArray) ++ digs.extract (a / 16) (a / 16 + 1) ++ digs.extract (a % 16) (a % 16 + 1) ++ colon ++ digs.extract (b / 16) (b / 16 + 1) ++ digs.extract (b % 16) (b % 16 + 1) ++ colon ++ digs.extract (c / 16) (c / 16 + 1) ++ digs.extract (c % 16) (c % 16 + 1) ++ colon ++ digs.extract (d / 16) (d / 16 + 1) ++ digs.extract (d % 16) (d % 16 + 1) ++ colon ++ digs.extract (e / 16) (e / 16 + 1) ++ digs.extract (e % 16) (e % 16 + 1) ++ colon ++ digs.extract (f / 16) (f / 16 + 1) ++ digs.extract (f % 16) (f % 16 + 1) = txt ⟨a, b, c, d, e, f⟩ := by
  rw [digs_ext' (a / 16) (by omega), digs_ext' (a % 16) (by omega), digs_ext' (b / 16) (by omega), digs_ext' (b % 16) (by omega), digs_ext' (c / 16) (by omega), digs_ext' (c % 16) (by omega), digs_ext' (d / 16) (by omega), digs_ext' (d % 16) (by omega), digs_ext' (e / 16) (by omega), digs_ext' (e % 16) (by omega), digs_ext' (f / 16) (by omega), digs_ext' (f % 16) (by omega)]
  apply ByteArray.ext
  simp [txt, two, colon, ByteArray.data_append]

set_option maxHeartbeats 4000000 in
set_option maxRecDepth 100000 in
theorem rtext_any (a b c d e f : Nat) (w : World) (h0 : a < 256) (h1 : b < 256) (h2 : c < 256) (h3 : d < 256) (h4 : e < 256) (h5 : f < 256) :
    Calls Tryd.prog 10 #[.agg #[.int .u8 a, .int .u8 b, .int .u8 c, .int .u8 d, .int .u8 e, .int .u8 f]] w fun en w' => en = .returned (.string (txt ⟨a, b, c, d, e, f⟩)) ∧ Below w.heap.size w w' := by
  have g0 : (a : Int) ≤ 255 := by omega
  have g1 : (b : Int) ≤ 255 := by omega
  have g2 : (c : Int) ≤ 255 := by omega
  have g3 : (d : Int) ≤ 255 := by omega
  have g4 : (e : Int) ≤ 255 := by omega
  have g5 : (f : Int) ≤ 255 := by omega
  go_enter Tryd.func10, Tryd.ntmps10
  go_wp2_with fail
  have X0 : Blk (w.alloc (.cells #[.int .u8 a, .int .u8 b, .int .u8 c, .int .u8 d, .int .u8 e, .int .u8 f] 22)) w.heap.size 22 #[.int .u8 a, .int .u8 b, .int .u8 c, .int .u8 d, .int .u8 e, .int .u8 f] := Blk.new _ _ _
  have B0 : Below w.heap.size w (w.alloc (.cells #[.int .u8 a, .int .u8 b, .int .u8 c, .int .u8 d, .int .u8 e, .int .u8 f] 22)) := (Below.refl _ _).alloc (Nat.le_refl _) _
  generalize (w.alloc (.cells #[.int .u8 a, .int .u8 b, .int .u8 c, .int .u8 d, .int .u8 e, .int .u8 f] 22)) = W0 at *
  obtain ⟨q0, q1, q2, q3, q4, q5⟩ := SixBlk.cells X0
  refine wp_loop_rounds 7 ?_
  rw [rounds_succ]
  go_wp2_with fail
  go_quiet (fail)
  go_wp2_with fail
  rw [rounds_succ]
  go_wp2_with fail
  go_quiet (fail)
  go_wp2_with fail
  rw [rounds_succ]
  go_wp2_with fail
  go_quiet (fail)
  go_wp2_with fail
  rw [rounds_succ]
  go_wp2_with fail
  go_quiet (fail)
  go_wp2_with fail
  rw [rounds_succ]
  go_wp2_with fail
  go_quiet (fail)
  go_wp2_with fail
  rw [rounds_succ]
  go_wp2_with fail
  go_quiet (fail)
  go_wp2_with fail
  rw [rounds_succ]
  go_wp2_with fail
  go_ret
  exact ⟨congrArg (fun s => Ending.returned (Value.string s)) (rtxt_eq a b c d e f h0 h1 h2 h3 h4 h5), below_drewN B0 _⟩
end Go.Proofs.YteiaojapolpjaaaDoor
