/- Ether, part 1: a number of two hexadecimal digits, as text. -/
import Derived.Test.YteiaojapolpjaaaDoorRows
import Derived.Test.YteiaojapolpjaaaDoorWb
import Derived.Deep.QuietTactic
import Derived.BigQuiet
namespace Go.Proofs.YteiaojapolpjaaaDoor
open Go.RowKit Go.WB

set_option maxHeartbeats 1000000 in
theorem tz64 (w : World) (hc : w.cell? ⟨7, 15, none⟩ = some (.int .u8 4)) : Calls Tryd.prog 59 #[.int .u64 16] w fun e w' => e = .returned (.int .i64 4) ∧ w = w' := by
  have e1 : bits BinOp.and IntKind.u64 16 (IntKind.u64.wrap (-16)) = 16 := by decide +kernel
  have e2 : IntKind.u64.wrap 4573923408821661840 = 4573923408821661840 := by decide +kernel
  go_enter Tryd.func59, Tryd.ntmps59
  go_wp2
  go_ret
  exact ⟨rfl, rfl⟩
theorem tz (w : World) (hc : w.cell? ⟨7, 15, none⟩ = some (.int .u8 4)) : Calls Tryd.prog 51 #[.int .u64 16] w fun e w' => e = .returned (.int .i64 4) ∧ w = w' := by
  go_enter Tryd.func51, Tryd.ntmps51
  go_wp2_with (first | (go_at_call 59; refine (tz64 _ hc).mono ?_; rintro e w' ⟨rfl, rfl⟩))
  go_ret
  exact ⟨rfl, rfl⟩
theorem pow2 (w : World) : Calls Tryd.prog 50 #[.int .i64 16] w fun e w' => e = .returned (.bool true) ∧ w = w' := by
  go_enter Tryd.func50, Tryd.ntmps50
  go_wp2
  go_ret
  exact ⟨rfl, rfl⟩

/-- A hexadecimal digit, as Go's table has it. -/
def hexc (k : Nat) : UInt8 := (#[48, 49, 50, 51, 52, 53, 54, 55, 56, 57, 97, 98, 99, 100, 101, 102] : Array UInt8).getD k 0

theorem and15 : ∀ k : Fin 512, bits BinOp.and IntKind.u64 (k.val : Int) 15 = (k.val : Int) % 16 := by decide +kernel
theorem and15' (u : Int) (h0 : 0 ≤ u) (h1 : u < 512) : bits BinOp.and IntKind.u64 u 15 = u % 16 := by
  have := and15 ⟨u.toNat, by omega⟩
  simp only at this
  rwa [Int.toNat_of_nonneg h0] at this

theorem conv3 (w : World) (D0 D1 D2 : UInt8) :
    (convert 32 9 (.slice (some ⟨w.heap.size, 62, none⟩) 3 3)).run Tryd.prog (w.alloc (.cells ((((Array.replicate 65 (.int .u8 0)).setIfInBounds 64 (.int .u8 (D0.toNat : Int))).setIfInBounds 63 (.int .u8 (D1.toNat : Int))).setIfInBounds 62 (.int .u8 (D2.toNat : Int))) 80)) =
      .ok (.string ⟨#[D2, D1, D0]⟩) (w.alloc (.cells ((((Array.replicate 65 (.int .u8 0)).setIfInBounds 64 (.int .u8 (D0.toNat : Int))).setIfInBounds 63 (.int .u8 (D1.toNat : Int))).setIfInBounds 62 (.int .u8 (D2.toNat : Int))) 80)) := by
  refine run_convert_bytes_back _ 32 9 5 ⟨w.heap.size, 62, none⟩ 3 [D2, D1, D0] Tryd.underlying32 Tryd.underlying5 Tryd.underlying9 (fun j hj => ?_)
  have h := (Blk.new w 80 ((((Array.replicate 65 (.int .u8 0)).setIfInBounds 64 (.int .u8 (D0.toNat : Int))).setIfInBounds 63 (.int .u8 (D1.toNat : Int))).setIfInBounds 62 (.int .u8 (D2.toNat : Int)))).cell (62 + j)
  have e : (⟨w.heap.size, 62, none⟩ : Addr).add j = ⟨w.heap.size, 62 + j, none⟩ := by unfold Addr.add; split <;> simp_all
  rw [e, h]
  simp only [List.length_cons, List.length_nil] at hj
  match j, hj with
  | 0, _ => simp
  | 1, _ => simp
  | 2, _ => simp
theorem dig36 : ∀ k : Fin 16, (⟨#[48, 49, 50, 51, 52, 53, 54, 55, 56, 57, 97, 98, 99, 100, 101, 102, 103, 104, 105, 106, 107, 108, 109, 110, 111, 112, 113, 114, 115, 116, 117, 118, 119, 120, 121, 122]⟩ : ByteArray)[k.val]'(by have := k.isLt; show k.val < 36; omega) = hexc k.val := by decide +kernel

set_option maxHeartbeats 1000000 in
set_option maxRecDepth 100000 in
theorem fb (u : Int) (w : World) (hu : 256 ≤ u) (hu2 : u < 512) (hc : w.cell? ⟨7, 15, none⟩ = some (.int .u8 4)) (hlt : 7 < w.heap.size) :
    Calls Tryd.prog 39 #[.slice none 0 0, .int .u64 u, .int .i64 16, .bool false, .bool false] w fun e w' => e = .returned (.tuple #[.slice none 0 0, .string ⟨#[49, hexc (u / 16 % 16).toNat, hexc (u % 16).toNat]⟩]) ∧ Below w.heap.size w w' := by
  have e1 := and15' u (by omega) (by omega)
  have e2 := and15' (u / 16) (by omega) (by omega)
  have b1 : 16 ≤ u / 16 := by omega
  have b2 : u / 16 / 16 = 1 := by omega
  have b3 : 0 ≤ u % 16 := by omega
  have b4 : u % 16 < 36 := by omega
  have b5 : 0 ≤ u / 16 % 16 := by omega
  have b6 : u / 16 % 16 < 36 := by omega
  have hconv := conv3 w
  go_enter Tryd.func39, Tryd.ntmps39
  go_wp2_with (first | (go_at_call 50; refine (pow2 _).mono ?_; rintro e w' ⟨rfl, rfl⟩))
  have hc1 : (w.alloc (.cells (Array.replicate 65 (.int .u8 0)) 80)).cell? ⟨7, 15, none⟩ = some (.int .u8 4) := (World.cell?_alloc_lt w _ ⟨7, 15, none⟩ hlt).trans hc
  refine (tz _ hc1).mono ?_
  rintro e w' ⟨rfl, rfl⟩
  go_wp2_with fail
  refine wp_loop_rounds 3 ?_
  rw [rounds_succ]
  go_wp2_with fail
  rw [rounds_succ]
  go_wp2_with fail
  rw [rounds_succ]
  go_wp2_with fail
  go_ret2
  refine ⟨?_, (Below.refl _ _).alloc (Nat.le_refl _) _⟩
  have d1 := dig36 ⟨(u % 16).toNat, by omega⟩
  have d2 := dig36 ⟨(u / 16 % 16).toNat, by omega⟩
  simp only at d1 d2
  rw [← d1, ← d2]
  rfl

theorem fu_in (u : Int) (w : World) (hu : 256 ≤ u) (hu2 : u < 512) (hc : w.cell? ⟨7, 15, none⟩ = some (.int .u8 4)) (hlt : 7 < w.heap.size) :
    Calls Tryd.prog 26 #[.int .u64 u, .int .i64 16] w fun e w' => e = .returned (.string ⟨#[49, hexc (u / 16 % 16).toNat, hexc (u % 16).toNat]⟩) ∧ Below w.heap.size w w' := by
  go_enter Tryd.func26, Tryd.ntmps26
  go_wp2_with fail
  refine (fb _ _ hu hu2 hc hlt).mono ?_
  rintro e w' ⟨rfl, hb⟩
  go_wp2_with fail
  go_ret
  exact ⟨rfl, hb⟩
theorem fu (u : Int) (w : World) (hu : 256 ≤ u) (hu2 : u < 512) (hc : w.cell? ⟨7, 15, none⟩ = some (.int .u8 4)) (hlt : 7 < w.heap.size) :
    Calls Tryd.prog 21 #[.int .u64 u, .int .i64 16] w fun e w' => e = .returned (.string ⟨#[49, hexc (u / 16 % 16).toNat, hexc (u % 16).toNat]⟩) ∧ Below w.heap.size w w' := by
  go_enter Tryd.func21, Tryd.ntmps21
  go_wp2_with fail
  refine (fu_in _ _ hu hu2 hc hlt).mono ?_
  rintro e w' ⟨rfl, hb⟩
  go_wp2_with fail
  go_ret
  exact ⟨rfl, hb⟩

/-- A byte as two digits. -/
def two (x : Nat) : ByteArray := ⟨#[hexc (x / 16), hexc (x % 16)]⟩

theorem text1 (x : Nat) (w : World) (hx : x < 256) (hc : w.cell? ⟨7, 15, none⟩ = some (.int .u8 4)) (hlt : 7 < w.heap.size) :
    Calls Tryd.prog 20 #[.int .u8 x] w fun e w' => e = .returned (.string (two x)) ∧ Below w.heap.size w w' := by
  have e1 : (((x : Int) + 256) / 16 % 16).toNat = x / 16 := by omega
  have e2 : (((x : Int) + 256) % 16).toNat = x % 16 := by omega
  have hf := fu ((x : Int) + 256) w (by omega) (by omega) hc hlt
  rw [e1, e2] at hf
  have HF := Lib.hid hf
  have hx0 : (x : Int) < 256 := by omega
  clear hf e1 e2 hc
  go_enter Tryd.func20, Tryd.ntmps20
  go_wp2_with fail
  refine HF.out.mono ?_
  rintro e w' ⟨rfl, hb⟩
  go_wp2_with fail
  go_ret
  exact ⟨rfl, hb⟩

end Go.Proofs.YteiaojapolpjaaaDoor
