/- Ether, part 14: ether.Read, walked. -/
import Derived.Test.YteiaojapolpjaaaDoorEthN
import Derived.Test.YteiaojapolpjaaaDoorLay
import Derived.Laws.BitsAllLaws
import Derived.Laws.Cover3
namespace Go.Proofs.YteiaojapolpjaaaDoor
open Go.RowKit Go.WB

theorem or_bytes (x y : Int) (h0 : 0 ≤ x) (h1 : x ≤ 255) (h2 : 0 ≤ y) (h3 : y ≤ 255) : bits .or .u16 (IntKind.u16.wrap (IntKind.u16.wrap x * 256)) (IntKind.u16.wrap y) = x * 256 + y := by
  obtain ⟨a, rfl⟩ := Int.eq_ofNat_of_zero_le h0
  obtain ⟨b, rfl⟩ := Int.eq_ofNat_of_zero_le h2
  have e1 : IntKind.u16.wrap (IntKind.u16.wrap (a : Int) * 256) = ((a * 256 : Nat) : Int) := by simp only [IntKind.wrap_u16]; omega
  have e2 : IntKind.u16.wrap (b : Int) = (b : Int) := by simp only [IntKind.wrap_u16]; omega
  rw [e1, e2, u16_or_nat _ _ (by omega) (by omega)]
  have := Nat.shiftLeft_add_eq_or_of_lt (show b < 2 ^ 8 by omega) a
  rw [Nat.shiftLeft_eq] at this
  have e3 : a * 256 ||| b = a * 256 + b := this.symm
  rw [e3]
  omega
/-- What region 5 keeps. -/
structure RdI (w0 W : World) (a : Addr) (xs : List Int) (N : Nat) : Prop where
  r : ∃ cs, Blk W N 31 cs ∧ cs.size = 13
  at_ : At W a xs
  b : Below w0.heap.size w0 W
  n : w0.heap.size = N
  lt : a.block < N
section
variable {w0 W W' : World} {a : Addr} {xs : List Int} {N : Nat}
theorem RdI.drew (h : RdI w0 W a xs N) : RdI w0 W.drew a xs N := ⟨h.r, h.at_, below_drewN h.b 1, h.n, h.lt⟩
theorem RdI.alloc (h : RdI w0 W a xs N) (o : Obj) : RdI w0 (W.alloc o) a xs N :=
  ⟨by obtain ⟨cs, hr, hz⟩ := h.r; exact ⟨cs, hr.alloc o, hz⟩, h.at_.below ((Below.refl W.heap.size W).alloc (Nat.le_refl _) o) (Nat.lt_of_lt_of_le (h.n ▸ h.lt) h.b.size), h.b.alloc h.b.size o, h.n, h.lt⟩
theorem add_some (a : Addr) (k : Nat) (hk : 0 < k) : a.add k = ⟨a.block, a.off + k, none⟩ := by
  unfold Addr.add
  split
  · omega
  · rfl
theorem add_zero (a : Addr) : a.add 0 = a := rfl
theorem RdI.cells (h : RdI w0 W a xs N) (hl : 14 ≤ xs.length) {x0 x1 x2 x3 x4 x5 x6 x7 x8 x9 x10 x11 x12 x13 : Int} (he : xs.getD 0 0 = x0 ∧ xs.getD 1 0 = x1 ∧ xs.getD 2 0 = x2 ∧ xs.getD 3 0 = x3 ∧ xs.getD 4 0 = x4 ∧ xs.getD 5 0 = x5 ∧ xs.getD 6 0 = x6 ∧ xs.getD 7 0 = x7 ∧ xs.getD 8 0 = x8 ∧ xs.getD 9 0 = x9 ∧ xs.getD 10 0 = x10 ∧ xs.getD 11 0 = x11 ∧ xs.getD 12 0 = x12 ∧ xs.getD 13 0 = x13) : W.cell? a = some (.int .u8 x0) ∧ W.cell? ⟨a.block, a.off + 1, none⟩ = some (.int .u8 x1) ∧ W.cell? ⟨a.block, a.off + 2, none⟩ = some (.int .u8 x2) ∧ W.cell? ⟨a.block, a.off + 3, none⟩ = some (.int .u8 x3) ∧ W.cell? ⟨a.block, a.off + 4, none⟩ = some (.int .u8 x4) ∧ W.cell? ⟨a.block, a.off + 5, none⟩ = some (.int .u8 x5) ∧ W.cell? ⟨a.block, a.off + 6, none⟩ = some (.int .u8 x6) ∧ W.cell? ⟨a.block, a.off + 6 + 1, none⟩ = some (.int .u8 x7) ∧ W.cell? ⟨a.block, a.off + 6 + 2, none⟩ = some (.int .u8 x8) ∧ W.cell? ⟨a.block, a.off + 6 + 3, none⟩ = some (.int .u8 x9) ∧ W.cell? ⟨a.block, a.off + 6 + 4, none⟩ = some (.int .u8 x10) ∧ W.cell? ⟨a.block, a.off + 6 + 5, none⟩ = some (.int .u8 x11) ∧ W.cell? ⟨a.block, a.off + 12, none⟩ = some (.int .u8 x12) ∧ W.cell? ⟨a.block, a.off + 13, none⟩ = some (.int .u8 x13) := by
  obtain ⟨e0, e1, e2, e3, e4, e5, e6, e7, e8, e9, e10, e11, e12, e13⟩ := he
  have g := fun k (hk : k < 14) => h.at_ k (by omega)
  have g2 := fun k (hk : k < 14) (h0 : 0 < k) => (add_some a k h0) ▸ g k hk
  refine ⟨by rw [← e0]; exact g 0 (by omega), by rw [← e1]; exact g2 1 (by omega) (by omega), by rw [← e2]; exact g2 2 (by omega) (by omega), by rw [← e3]; exact g2 3 (by omega) (by omega), by rw [← e4]; exact g2 4 (by omega) (by omega), by rw [← e5]; exact g2 5 (by omega) (by omega), by rw [← e6]; exact g2 6 (by omega) (by omega), by rw [← e7]; exact g2 7 (by omega) (by omega), by rw [← e8]; exact g2 8 (by omega) (by omega), by rw [← e9]; exact g2 9 (by omega) (by omega), by rw [← e10]; exact g2 10 (by omega) (by omega), by rw [← e11]; exact g2 11 (by omega) (by omega), by rw [← e12]; exact g2 12 (by omega) (by omega), by rw [← e13]; exact g2 13 (by omega) (by omega)⟩
theorem RdJ.below {T : Int} (h : RdJ w0 W a xs T N) (hb : Below W.heap.size W W') : RdJ w0 W' a xs T N :=
  ⟨by obtain ⟨cs, hr, hz⟩ := h.r; exact ⟨cs, hr.below hb hr.lt, hz⟩, h.e.below hb h.e.lt, h.at_.below hb (Nat.lt_of_lt_of_le (h.n ▸ h.lt) h.b.size), h.b.trans (hb.mono h.b.size), h.n, h.lt⟩
theorem RdJ.size2 {T : Int} (h : RdJ w0 W a xs T N) : N + 2 ≤ W.heap.size := h.e.lt
theorem cells14 (h : At W a xs) {m : Nat} (hm : m + 14 ≤ xs.length) : ∀ i, i < m → W.cell? ((⟨a.block, a.off + 14, none⟩ : Addr).add i) = some (.int .u8 ((xs.drop 14).getD i 0)) := by
  intro i hi
  have e : (⟨a.block, a.off + 14, none⟩ : Addr).add i = a.add (14 + i) := by
    unfold Addr.add
    split
    · subst_vars; rfl
    · rw [if_neg (by omega)]; simp [Nat.add_assoc]
  rw [e, h (14 + i) (by omega)]
  simp [List.getD]
theorem hd_eq {T : Int} {x0 x1 x2 x3 x4 x5 x6 x7 x8 x9 x10 x11 x12 x13 : Int} (he : xs.getD 0 0 = x0 ∧ xs.getD 1 0 = x1 ∧ xs.getD 2 0 = x2 ∧ xs.getD 3 0 = x3 ∧ xs.getD 4 0 = x4 ∧ xs.getD 5 0 = x5 ∧ xs.getD 6 0 = x6 ∧ xs.getD 7 0 = x7 ∧ xs.getD 8 0 = x8 ∧ xs.getD 9 0 = x9 ∧ xs.getD 10 0 = x10 ∧ xs.getD 11 0 = x11 ∧ xs.getD 12 0 = x12 ∧ xs.getD 13 0 = x13) : hd xs 6 T = #[.int .u8 x0, .int .u8 x1, .int .u8 x2, .int .u8 x3, .int .u8 x4, .int .u8 x5, .int .u8 x6, .int .u8 x7, .int .u8 x8, .int .u8 x9, .int .u8 x10, .int .u8 x11, .int .u16 T] := by
  obtain ⟨e0, e1, e2, e3, e4, e5, e6, e7, e8, e9, e10, e11, e12, e13⟩ := he
  simp only [hd, hv, hn, Nat.reduceMod, Nat.reduceLT, if_true]
  rw [e0, e1, e2, e3, e4, e5, e6, e7, e8, e9, e10, e11]
end

set_option maxHeartbeats 1000000 in
set_option maxRecDepth 100000 in
theorem read_big (a : Addr) (n c : Nat) (xs : List Int) (w : World) (hx : xs.length = n) (h0 : 14 ≤ n) (h1 : n ≤ 1600) (hc : At w a xs) (hb : Bs xs) (hcap : n ≤ c) (hc14 : ¬ c = 14) : Calls Tryd.prog 11 #[.slice (some a) n c] w (RdPost xs n w) := by
  have b0 : (n : Int) ≤ 1600 := by omega
  have b1 : (14 : Int) ≤ (n : Int) := by omega
  have b2 : (n : Int) ≤ (c : Int) := by omega
  have b3 : (6 : Int) ≤ (c : Int) := by omega
  have b4 : (12 : Int) < (n : Int) := by omega
  have b5 : (13 : Int) < (n : Int) := by omega
  have b6 : (6 : Int) ≤ (n : Int) := by omega
  have b7 : (14 : Int) ≤ (c : Int) := by omega
  have HX := Lib.hid hx
  have HC := Lib.hid hc
  have HB := Lib.hid hb
  have hlt := hc.lt (by omega)
  have harr := fun W : World => run_arrayAt (P := Tryd.prog) (w := W) 22 5 6 (some a) n c Tryd.underlying22 (by omega)
  have harr2 := fun W : World => run_arrayAt (P := Tryd.prog) (w := W) 22 5 6 (some ⟨a.block, a.off + 6, none⟩) (n - 6) (c - 6) Tryd.underlying22 (by omega)
  clear hx hc hb
  obtain ⟨x0, e0⟩ : ∃ x, xs.getD 0 0 = x := ⟨_, rfl⟩
  obtain ⟨x1, e1⟩ : ∃ x, xs.getD 1 0 = x := ⟨_, rfl⟩
  obtain ⟨x2, e2⟩ : ∃ x, xs.getD 2 0 = x := ⟨_, rfl⟩
  obtain ⟨x3, e3⟩ : ∃ x, xs.getD 3 0 = x := ⟨_, rfl⟩
  obtain ⟨x4, e4⟩ : ∃ x, xs.getD 4 0 = x := ⟨_, rfl⟩
  obtain ⟨x5, e5⟩ : ∃ x, xs.getD 5 0 = x := ⟨_, rfl⟩
  obtain ⟨x6, e6⟩ : ∃ x, xs.getD 6 0 = x := ⟨_, rfl⟩
  obtain ⟨x7, e7⟩ : ∃ x, xs.getD 7 0 = x := ⟨_, rfl⟩
  obtain ⟨x8, e8⟩ : ∃ x, xs.getD 8 0 = x := ⟨_, rfl⟩
  obtain ⟨x9, e9⟩ : ∃ x, xs.getD 9 0 = x := ⟨_, rfl⟩
  obtain ⟨x10, e10⟩ : ∃ x, xs.getD 10 0 = x := ⟨_, rfl⟩
  obtain ⟨x11, e11⟩ : ∃ x, xs.getD 11 0 = x := ⟨_, rfl⟩
  obtain ⟨x12, e12⟩ : ∃ x, xs.getD 12 0 = x := ⟨_, rfl⟩
  obtain ⟨x13, e13⟩ : ∃ x, xs.getD 13 0 = x := ⟨_, rfl⟩
  have HE : Hid (xs.getD 0 0 = x0 ∧ xs.getD 1 0 = x1 ∧ xs.getD 2 0 = x2 ∧ xs.getD 3 0 = x3 ∧ xs.getD 4 0 = x4 ∧ xs.getD 5 0 = x5 ∧ xs.getD 6 0 = x6 ∧ xs.getD 7 0 = x7 ∧ xs.getD 8 0 = x8 ∧ xs.getD 9 0 = x9 ∧ xs.getD 10 0 = x10 ∧ xs.getD 11 0 = x11 ∧ xs.getD 12 0 = x12 ∧ xs.getD 13 0 = x13) := ⟨e0, e1, e2, e3, e4, e5, e6, e7, e8, e9, e10, e11, e12, e13⟩
  have B12 := HB.out 12
  have B13 := HB.out 13
  rw [e12] at B12
  rw [e13] at B13
  obtain ⟨p0, p1⟩ := B12
  obtain ⟨q0, q1⟩ := B13
  have hor := or_bytes x12 x13 p0 p1 q0 q1
  obtain ⟨T, hT⟩ : ∃ T, x12 * 256 + x13 = T := ⟨_, rfl⟩
  rw [hT] at hor
  have HT := Lib.hid hT
  clear hT p0 p1 q0 q1 e0 e1 e2 e3 e4 e5 e6 e7 e8 e9 e10 e11 e12 e13
  go_enter Tryd.func11, Tryd.ntmps11
  go_wp2_with fail
  have I0 : RdI w (w.alloc (.cells #[.int .u8 0, .int .u8 0, .int .u8 0, .int .u8 0, .int .u8 0, .int .u8 0, .int .u8 0, .int .u8 0, .int .u8 0, .int .u8 0, .int .u8 0, .int .u8 0, .int .u16 0] 31)) a xs w.heap.size := ⟨⟨_, Blk.new w 31 _, rfl⟩, HC.out.below ((Below.refl _ w).alloc (Nat.le_refl _) _) hlt, (Below.refl _ _).alloc (Nat.le_refl _) _, rfl, hlt⟩
  have I0s : (w.alloc (.cells #[.int .u8 0, .int .u8 0, .int .u8 0, .int .u8 0, .int .u8 0, .int .u8 0, .int .u8 0, .int .u8 0, .int .u8 0, .int .u8 0, .int .u8 0, .int .u8 0, .int .u16 0] 31)).heap.size = w.heap.size + 1 := by simp
  generalize (w.alloc (.cells #[.int .u8 0, .int .u8 0, .int .u8 0, .int .u8 0, .int .u8 0, .int .u8 0, .int .u8 0, .int .u8 0, .int .u8 0, .int .u8 0, .int .u8 0, .int .u8 0, .int .u16 0] 31)) = W0 at *
  have hcl := fun W (h : RdI w W a xs w.heap.size) => h.cells (by have := HX.out; omega) HE.out
  have HCL := Lib.hid hcl
  clear hcl
  have I1 := I0.drew
  have HI0s := Lib.hid I0s
  clear I0s
  go_region_held3 (fun W => RdI w W a xs w.heap.size ∧ W.cell? a = some (.int .u8 x0) ∧ W.cell? ⟨a.block, a.off + 1, none⟩ = some (.int .u8 x1) ∧ W.cell? ⟨a.block, a.off + 2, none⟩ = some (.int .u8 x2) ∧ W.cell? ⟨a.block, a.off + 3, none⟩ = some (.int .u8 x3) ∧ W.cell? ⟨a.block, a.off + 4, none⟩ = some (.int .u8 x4) ∧ W.cell? ⟨a.block, a.off + 5, none⟩ = some (.int .u8 x5) ∧ W.cell? ⟨a.block, a.off + 6, none⟩ = some (.int .u8 x6) ∧ W.cell? ⟨a.block, a.off + 6 + 1, none⟩ = some (.int .u8 x7) ∧ W.cell? ⟨a.block, a.off + 6 + 2, none⟩ = some (.int .u8 x8) ∧ W.cell? ⟨a.block, a.off + 6 + 3, none⟩ = some (.int .u8 x9) ∧ W.cell? ⟨a.block, a.off + 6 + 4, none⟩ = some (.int .u8 x10) ∧ W.cell? ⟨a.block, a.off + 6 + 5, none⟩ = some (.int .u8 x11) ∧ W.cell? ⟨a.block, a.off + 12, none⟩ = some (.int .u8 x12) ∧ W.cell? ⟨a.block, a.off + 13, none⟩ = some (.int .u8 x13))
    ((refine ⟨?_, HCL.out _ ?_⟩ <;> first | (with_reducible assumption) | (with_reducible exact RdI.alloc (by assumption) _) | (with_reducible exact RdI.drew (by assumption)) | (with_reducible exact RdI.drew (RdI.alloc I0 _)) | (run_tac Lean.Elab.Tactic.withMainContext do Lean.logInfo m!"{← Lean.Elab.Tactic.getMainTarget}"))) (fail)
  all_goals
    rw [HI0s.out]
    have J0 : RdJ w (W0.alloc (.cells #[.int .u8 x0, .int .u8 x1, .int .u8 x2, .int .u8 x3, .int .u8 x4, .int .u8 x5, .int .u8 x6, .int .u8 x7, .int .u8 x8, .int .u8 x9, .int .u8 x10, .int .u8 x11, .int .u16 T] 31)).drew a xs T w.heap.size := RdJ.drew ⟨by obtain ⟨cs, hr, hz⟩ := I0.r; exact ⟨cs, hr.alloc _, hz⟩, by rw [hd_eq HE.out]; exact Blk.newAt _ _ _ HI0s.out, (I0.alloc _).at_, (I0.alloc _).b, rfl, hlt⟩
    generalize (W0.alloc (.cells #[.int .u8 x0, .int .u8 x1, .int .u8 x2, .int .u8 x3, .int .u8 x4, .int .u8 x5, .int .u8 x6, .int .u8 x7, .int .u8 x8, .int .u8 x9, .int .u8 x10, .int .u8 x11, .int .u16 T] 31)).drew = W1 at *
    have HJ := Lib.hid J0
    clear J0 I0 I1 harr harr2 hor
    go_wp2_with fail
    have JJ := HJ.out
    go_region_held3 (fun W => RdJ w W a xs T w.heap.size ∧ (W.cell? ⟨w.heap.size + 1, 0, none⟩ = some (.int .u8 (hn xs 6 0)) ∧ W.cell? ⟨w.heap.size + 1, 1, none⟩ = some (.int .u8 (hn xs 6 1)) ∧ W.cell? ⟨w.heap.size + 1, 2, none⟩ = some (.int .u8 (hn xs 6 2)) ∧ W.cell? ⟨w.heap.size + 1, 3, none⟩ = some (.int .u8 (hn xs 6 3)) ∧ W.cell? ⟨w.heap.size + 1, 4, none⟩ = some (.int .u8 (hn xs 6 4)) ∧ W.cell? ⟨w.heap.size + 1, 5, none⟩ = some (.int .u8 (hn xs 6 5)) ∧ W.cell? ⟨w.heap.size + 1, 6, none⟩ = some (.int .u8 (hn xs 6 6)) ∧ W.cell? ⟨w.heap.size + 1, 7, none⟩ = some (.int .u8 (hn xs 6 7)) ∧ W.cell? ⟨w.heap.size + 1, 8, none⟩ = some (.int .u8 (hn xs 6 8)) ∧ W.cell? ⟨w.heap.size + 1, 9, none⟩ = some (.int .u8 (hn xs 6 9)) ∧ W.cell? ⟨w.heap.size + 1, 10, none⟩ = some (.int .u8 (hn xs 6 10)) ∧ W.cell? ⟨w.heap.size + 1, 11, none⟩ = some (.int .u8 (hn xs 6 11)) ∧ W.cell? ⟨w.heap.size + 1, 12, none⟩ = some (.int .u16 T)) ∧ (W.frozen? ⟨w.heap.size, 0, none⟩ = false ∧ W.frozen? ⟨w.heap.size, 1, none⟩ = false ∧ W.frozen? ⟨w.heap.size, 2, none⟩ = false ∧ W.frozen? ⟨w.heap.size, 3, none⟩ = false ∧ W.frozen? ⟨w.heap.size, 4, none⟩ = false ∧ W.frozen? ⟨w.heap.size, 5, none⟩ = false ∧ W.frozen? ⟨w.heap.size, 6, none⟩ = false ∧ W.frozen? ⟨w.heap.size, 7, none⟩ = false ∧ W.frozen? ⟨w.heap.size, 8, none⟩ = false ∧ W.frozen? ⟨w.heap.size, 9, none⟩ = false ∧ W.frozen? ⟨w.heap.size, 10, none⟩ = false ∧ W.frozen? ⟨w.heap.size, 11, none⟩ = false ∧ W.frozen? ⟨w.heap.size, 12, none⟩ = false) ∧ (W.cell? ⟨w.heap.size, 0, none⟩ = some (cellAt W w.heap.size 0) ∧ W.cell? ⟨w.heap.size, 1, none⟩ = some (cellAt W w.heap.size 1) ∧ W.cell? ⟨w.heap.size, 2, none⟩ = some (cellAt W w.heap.size 2) ∧ W.cell? ⟨w.heap.size, 3, none⟩ = some (cellAt W w.heap.size 3) ∧ W.cell? ⟨w.heap.size, 4, none⟩ = some (cellAt W w.heap.size 4) ∧ W.cell? ⟨w.heap.size, 5, none⟩ = some (cellAt W w.heap.size 5) ∧ W.cell? ⟨w.heap.size, 6, none⟩ = some (cellAt W w.heap.size 6) ∧ W.cell? ⟨w.heap.size, 7, none⟩ = some (cellAt W w.heap.size 7) ∧ W.cell? ⟨w.heap.size, 8, none⟩ = some (cellAt W w.heap.size 8) ∧ W.cell? ⟨w.heap.size, 9, none⟩ = some (cellAt W w.heap.size 9) ∧ W.cell? ⟨w.heap.size, 10, none⟩ = some (cellAt W w.heap.size 10) ∧ W.cell? ⟨w.heap.size, 11, none⟩ = some (cellAt W w.heap.size 11) ∧ W.cell? ⟨w.heap.size, 12, none⟩ = some (cellAt W w.heap.size 12)))
        ((refine RdJ.all ?_; first | (with_reducible assumption) | (with_reducible exact RdJ.drew (by assumption)) | (with_reducible exact RdJ.alloc (RdJ.drew (by assumption)) _) | (with_reducible refine RdJ.alloc ?_ _; exact RdJAll.out (by assumption)) | (with_reducible (refine RdJ.set_ ?_ _ _; refine RdJ.set_ ?_ _ _; refine RdJ.set_ ?_ _ _; refine RdJ.set_ ?_ _ _; refine RdJ.set_ ?_ _ _; refine RdJ.set_ ?_ _ _; refine RdJ.set_ ?_ _ _; refine RdJ.set_ ?_ _ _; refine RdJ.set_ ?_ _ _; refine RdJ.set_ ?_ _ _; refine RdJ.set_ ?_ _ _; refine RdJ.set_ ?_ _ _; refine RdJ.set_ ?_ _ _); first | with_reducible assumption | exact RdJAll.out (by assumption) | (rename_i hHeld _; exact hHeld.1))))
        (first | (go_at_call 22; refine (Any.bytes_Clone_at Tryd.laysSlK4 ⟨a.block, a.off + 14, none⟩ (n - 14) (c - 14) (xs.drop 14) _ (by have := HX.out; simp; try omega) (by omega) ?_).mono ?_; (exact cells14 (RdJ.at_ (RdJAll.out (by assumption))) (by have := HX.out; omega)); rintro en w' ⟨v', rfl, hown, _, hb⟩; have J2 := RdJ.below (RdJAll.out (by assumption)) hb; have hsz2 := RdJ.size2 (RdJAll.out (by assumption))))
    obtain ⟨cs, hr, hz⟩ := J2.r
    have Z := st13 hr hz (.int .u8 (hn xs 6 0)) (.int .u8 (hn xs 6 1)) (.int .u8 (hn xs 6 2)) (.int .u8 (hn xs 6 3)) (.int .u8 (hn xs 6 4)) (.int .u8 (hn xs 6 5)) (.int .u8 (hn xs 6 6)) (.int .u8 (hn xs 6 7)) (.int .u8 (hn xs 6 8)) (.int .u8 (hn xs 6 9)) (.int .u8 (hn xs 6 10)) (.int .u8 (hn xs 6 11)) (.int .u16 T)
    have Jb : Below w.heap.size w w' := J2.b
    have hsz' := Jb.size
    clear J2 JJ HJ
    have hT3 : Hid (xs.getD 12 0 * 256 + xs.getD 13 0 = T) := by
      obtain ⟨_, _, _, _, _, _, _, _, _, _, _, _, e12, e13⟩ := HE.out
      rw [e12, e13]
      exact HT.out
    have ow := own_mods hown Z.m (by intro k hk; have := (World.ownsRow.lt hown k hk).1; omega)
    have Jf := Jb.trans (Z.m.toBelow (B := w.heap.size) (fun i hi => by omega) hsz')
    have Zr := Z.r
    clear Z hown hb hr hz
    generalize (((((((((((((w'.setCell ⟨w.heap.size, 0, none⟩ (.int .u8 (hn xs 6 0))).setCell ⟨w.heap.size, 1, none⟩ (.int .u8 (hn xs 6 1))).setCell ⟨w.heap.size, 2, none⟩ (.int .u8 (hn xs 6 2))).setCell ⟨w.heap.size, 3, none⟩ (.int .u8 (hn xs 6 3))).setCell ⟨w.heap.size, 4, none⟩ (.int .u8 (hn xs 6 4))).setCell ⟨w.heap.size, 5, none⟩ (.int .u8 (hn xs 6 5))).setCell ⟨w.heap.size, 6, none⟩ (.int .u8 (hn xs 6 6))).setCell ⟨w.heap.size, 7, none⟩ (.int .u8 (hn xs 6 7))).setCell ⟨w.heap.size, 8, none⟩ (.int .u8 (hn xs 6 8))).setCell ⟨w.heap.size, 9, none⟩ (.int .u8 (hn xs 6 9))).setCell ⟨w.heap.size, 10, none⟩ (.int .u8 (hn xs 6 10))).setCell ⟨w.heap.size, 11, none⟩ (.int .u8 (hn xs 6 11))).setCell ⟨w.heap.size, 12, none⟩ (.int .u16 T)) = Wf at *
    have q0 := Zr.cell 0
    have q1 := Zr.cell 1
    have q2 := Zr.cell 2
    have q3 := Zr.cell 3
    have q4 := Zr.cell 4
    have q5 := Zr.cell 5
    have q6 := Zr.cell 6
    have q7 := Zr.cell 7
    have q8 := Zr.cell 8
    have q9 := Zr.cell 9
    have q10 := Zr.cell 10
    have q11 := Zr.cell 11
    have q12 := Zr.cell 12
    simp only [List.getElem?_toArray, List.getElem?_cons_zero, List.getElem?_cons_succ] at q0 q1 q2 q3 q4 q5 q6 q7 q8 q9 q10 q11 q12
    go_wp2_with fail
    refine bodyPost_ret (v := .tuple #[.agg (hd xs 6 T), v', .int .i64 0]) (by simp [results, Tryd.results12, go_sem, hd, hv, q0, q1, q2, q3, q4, q5, q6, q7, q8, q9, q10, q11, q12]) rfl ⟨v', ?_, ?_, Jf⟩
    · rw [hT3.out]
    · exact own_base ow (by omega)
set_option maxHeartbeats 1000000 in
set_option maxRecDepth 100000 in
theorem read_14 (a : Addr) (xs : List Int) (w : World) (hx : xs.length = 14) (hc : At w a xs) (hb : Bs xs) : Calls Tryd.prog 11 #[.slice (some a) 14 14] w (RdPost xs 14 w) := by
  have HX := Lib.hid hx
  have HC := Lib.hid hc
  have HB := Lib.hid hb
  have hlt := hc.lt (by omega)
  have harr := fun W : World => run_arrayAt (P := Tryd.prog) (w := W) 22 5 6 (some a) 14 14 Tryd.underlying22 (by omega)
  have harr2 := fun W : World => run_arrayAt (P := Tryd.prog) (w := W) 22 5 6 (some ⟨a.block, a.off + 6, none⟩) 8 8 Tryd.underlying22 (by omega)
  clear hx hc hb
  obtain ⟨x0, e0⟩ : ∃ x, xs.getD 0 0 = x := ⟨_, rfl⟩
  obtain ⟨x1, e1⟩ : ∃ x, xs.getD 1 0 = x := ⟨_, rfl⟩
  obtain ⟨x2, e2⟩ : ∃ x, xs.getD 2 0 = x := ⟨_, rfl⟩
  obtain ⟨x3, e3⟩ : ∃ x, xs.getD 3 0 = x := ⟨_, rfl⟩
  obtain ⟨x4, e4⟩ : ∃ x, xs.getD 4 0 = x := ⟨_, rfl⟩
  obtain ⟨x5, e5⟩ : ∃ x, xs.getD 5 0 = x := ⟨_, rfl⟩
  obtain ⟨x6, e6⟩ : ∃ x, xs.getD 6 0 = x := ⟨_, rfl⟩
  obtain ⟨x7, e7⟩ : ∃ x, xs.getD 7 0 = x := ⟨_, rfl⟩
  obtain ⟨x8, e8⟩ : ∃ x, xs.getD 8 0 = x := ⟨_, rfl⟩
  obtain ⟨x9, e9⟩ : ∃ x, xs.getD 9 0 = x := ⟨_, rfl⟩
  obtain ⟨x10, e10⟩ : ∃ x, xs.getD 10 0 = x := ⟨_, rfl⟩
  obtain ⟨x11, e11⟩ : ∃ x, xs.getD 11 0 = x := ⟨_, rfl⟩
  obtain ⟨x12, e12⟩ : ∃ x, xs.getD 12 0 = x := ⟨_, rfl⟩
  obtain ⟨x13, e13⟩ : ∃ x, xs.getD 13 0 = x := ⟨_, rfl⟩
  have HE : Hid (xs.getD 0 0 = x0 ∧ xs.getD 1 0 = x1 ∧ xs.getD 2 0 = x2 ∧ xs.getD 3 0 = x3 ∧ xs.getD 4 0 = x4 ∧ xs.getD 5 0 = x5 ∧ xs.getD 6 0 = x6 ∧ xs.getD 7 0 = x7 ∧ xs.getD 8 0 = x8 ∧ xs.getD 9 0 = x9 ∧ xs.getD 10 0 = x10 ∧ xs.getD 11 0 = x11 ∧ xs.getD 12 0 = x12 ∧ xs.getD 13 0 = x13) := ⟨e0, e1, e2, e3, e4, e5, e6, e7, e8, e9, e10, e11, e12, e13⟩
  have B12 := HB.out 12
  have B13 := HB.out 13
  rw [e12] at B12
  rw [e13] at B13
  obtain ⟨p0, p1⟩ := B12
  obtain ⟨q0, q1⟩ := B13
  have hor := or_bytes x12 x13 p0 p1 q0 q1
  obtain ⟨T, hT⟩ : ∃ T, x12 * 256 + x13 = T := ⟨_, rfl⟩
  rw [hT] at hor
  have HT := Lib.hid hT
  clear hT p0 p1 q0 q1 e0 e1 e2 e3 e4 e5 e6 e7 e8 e9 e10 e11 e12 e13
  go_enter Tryd.func11, Tryd.ntmps11
  go_wp2_with fail
  have I0 : RdI w (w.alloc (.cells #[.int .u8 0, .int .u8 0, .int .u8 0, .int .u8 0, .int .u8 0, .int .u8 0, .int .u8 0, .int .u8 0, .int .u8 0, .int .u8 0, .int .u8 0, .int .u8 0, .int .u16 0] 31)) a xs w.heap.size := ⟨⟨_, Blk.new w 31 _, rfl⟩, HC.out.below ((Below.refl _ w).alloc (Nat.le_refl _) _) hlt, (Below.refl _ _).alloc (Nat.le_refl _) _, rfl, hlt⟩
  have I0s : (w.alloc (.cells #[.int .u8 0, .int .u8 0, .int .u8 0, .int .u8 0, .int .u8 0, .int .u8 0, .int .u8 0, .int .u8 0, .int .u8 0, .int .u8 0, .int .u8 0, .int .u8 0, .int .u16 0] 31)).heap.size = w.heap.size + 1 := by simp
  generalize (w.alloc (.cells #[.int .u8 0, .int .u8 0, .int .u8 0, .int .u8 0, .int .u8 0, .int .u8 0, .int .u8 0, .int .u8 0, .int .u8 0, .int .u8 0, .int .u8 0, .int .u8 0, .int .u16 0] 31)) = W0 at *
  have hcl := fun W (h : RdI w W a xs w.heap.size) => h.cells (by have := HX.out; omega) HE.out
  have HCL := Lib.hid hcl
  clear hcl
  have I1 := I0.drew
  have HI0s := Lib.hid I0s
  clear I0s
  go_region_held3 (fun W => RdI w W a xs w.heap.size ∧ W.cell? a = some (.int .u8 x0) ∧ W.cell? ⟨a.block, a.off + 1, none⟩ = some (.int .u8 x1) ∧ W.cell? ⟨a.block, a.off + 2, none⟩ = some (.int .u8 x2) ∧ W.cell? ⟨a.block, a.off + 3, none⟩ = some (.int .u8 x3) ∧ W.cell? ⟨a.block, a.off + 4, none⟩ = some (.int .u8 x4) ∧ W.cell? ⟨a.block, a.off + 5, none⟩ = some (.int .u8 x5) ∧ W.cell? ⟨a.block, a.off + 6, none⟩ = some (.int .u8 x6) ∧ W.cell? ⟨a.block, a.off + 6 + 1, none⟩ = some (.int .u8 x7) ∧ W.cell? ⟨a.block, a.off + 6 + 2, none⟩ = some (.int .u8 x8) ∧ W.cell? ⟨a.block, a.off + 6 + 3, none⟩ = some (.int .u8 x9) ∧ W.cell? ⟨a.block, a.off + 6 + 4, none⟩ = some (.int .u8 x10) ∧ W.cell? ⟨a.block, a.off + 6 + 5, none⟩ = some (.int .u8 x11) ∧ W.cell? ⟨a.block, a.off + 12, none⟩ = some (.int .u8 x12) ∧ W.cell? ⟨a.block, a.off + 13, none⟩ = some (.int .u8 x13))
    ((refine ⟨?_, HCL.out _ ?_⟩ <;> first | (with_reducible assumption) | (with_reducible exact RdI.alloc (by assumption) _) | (with_reducible exact RdI.drew (by assumption)) | (with_reducible exact RdI.drew (RdI.alloc I0 _)) | (run_tac Lean.Elab.Tactic.withMainContext do Lean.logInfo m!"{← Lean.Elab.Tactic.getMainTarget}"))) (fail)
  all_goals
    rw [HI0s.out]
    have J0 : RdJ w (W0.alloc (.cells #[.int .u8 x0, .int .u8 x1, .int .u8 x2, .int .u8 x3, .int .u8 x4, .int .u8 x5, .int .u8 x6, .int .u8 x7, .int .u8 x8, .int .u8 x9, .int .u8 x10, .int .u8 x11, .int .u16 T] 31)).drew a xs T w.heap.size := RdJ.drew ⟨by obtain ⟨cs, hr, hz⟩ := I0.r; exact ⟨cs, hr.alloc _, hz⟩, by rw [hd_eq HE.out]; exact Blk.newAt _ _ _ HI0s.out, (I0.alloc _).at_, (I0.alloc _).b, rfl, hlt⟩
    generalize (W0.alloc (.cells #[.int .u8 x0, .int .u8 x1, .int .u8 x2, .int .u8 x3, .int .u8 x4, .int .u8 x5, .int .u8 x6, .int .u8 x7, .int .u8 x8, .int .u8 x9, .int .u8 x10, .int .u8 x11, .int .u16 T] 31)).drew = W1 at *
    have HJ := Lib.hid J0
    clear J0 I0 I1 harr harr2 hor
    go_wp2_with fail
    have JJ := HJ.out
    go_region_held3 (fun W => RdJ w W a xs T w.heap.size ∧ (W.cell? ⟨w.heap.size + 1, 0, none⟩ = some (.int .u8 (hn xs 6 0)) ∧ W.cell? ⟨w.heap.size + 1, 1, none⟩ = some (.int .u8 (hn xs 6 1)) ∧ W.cell? ⟨w.heap.size + 1, 2, none⟩ = some (.int .u8 (hn xs 6 2)) ∧ W.cell? ⟨w.heap.size + 1, 3, none⟩ = some (.int .u8 (hn xs 6 3)) ∧ W.cell? ⟨w.heap.size + 1, 4, none⟩ = some (.int .u8 (hn xs 6 4)) ∧ W.cell? ⟨w.heap.size + 1, 5, none⟩ = some (.int .u8 (hn xs 6 5)) ∧ W.cell? ⟨w.heap.size + 1, 6, none⟩ = some (.int .u8 (hn xs 6 6)) ∧ W.cell? ⟨w.heap.size + 1, 7, none⟩ = some (.int .u8 (hn xs 6 7)) ∧ W.cell? ⟨w.heap.size + 1, 8, none⟩ = some (.int .u8 (hn xs 6 8)) ∧ W.cell? ⟨w.heap.size + 1, 9, none⟩ = some (.int .u8 (hn xs 6 9)) ∧ W.cell? ⟨w.heap.size + 1, 10, none⟩ = some (.int .u8 (hn xs 6 10)) ∧ W.cell? ⟨w.heap.size + 1, 11, none⟩ = some (.int .u8 (hn xs 6 11)) ∧ W.cell? ⟨w.heap.size + 1, 12, none⟩ = some (.int .u16 T)) ∧ (W.frozen? ⟨w.heap.size, 0, none⟩ = false ∧ W.frozen? ⟨w.heap.size, 1, none⟩ = false ∧ W.frozen? ⟨w.heap.size, 2, none⟩ = false ∧ W.frozen? ⟨w.heap.size, 3, none⟩ = false ∧ W.frozen? ⟨w.heap.size, 4, none⟩ = false ∧ W.frozen? ⟨w.heap.size, 5, none⟩ = false ∧ W.frozen? ⟨w.heap.size, 6, none⟩ = false ∧ W.frozen? ⟨w.heap.size, 7, none⟩ = false ∧ W.frozen? ⟨w.heap.size, 8, none⟩ = false ∧ W.frozen? ⟨w.heap.size, 9, none⟩ = false ∧ W.frozen? ⟨w.heap.size, 10, none⟩ = false ∧ W.frozen? ⟨w.heap.size, 11, none⟩ = false ∧ W.frozen? ⟨w.heap.size, 12, none⟩ = false) ∧ (W.cell? ⟨w.heap.size, 0, none⟩ = some (cellAt W w.heap.size 0) ∧ W.cell? ⟨w.heap.size, 1, none⟩ = some (cellAt W w.heap.size 1) ∧ W.cell? ⟨w.heap.size, 2, none⟩ = some (cellAt W w.heap.size 2) ∧ W.cell? ⟨w.heap.size, 3, none⟩ = some (cellAt W w.heap.size 3) ∧ W.cell? ⟨w.heap.size, 4, none⟩ = some (cellAt W w.heap.size 4) ∧ W.cell? ⟨w.heap.size, 5, none⟩ = some (cellAt W w.heap.size 5) ∧ W.cell? ⟨w.heap.size, 6, none⟩ = some (cellAt W w.heap.size 6) ∧ W.cell? ⟨w.heap.size, 7, none⟩ = some (cellAt W w.heap.size 7) ∧ W.cell? ⟨w.heap.size, 8, none⟩ = some (cellAt W w.heap.size 8) ∧ W.cell? ⟨w.heap.size, 9, none⟩ = some (cellAt W w.heap.size 9) ∧ W.cell? ⟨w.heap.size, 10, none⟩ = some (cellAt W w.heap.size 10) ∧ W.cell? ⟨w.heap.size, 11, none⟩ = some (cellAt W w.heap.size 11) ∧ W.cell? ⟨w.heap.size, 12, none⟩ = some (cellAt W w.heap.size 12)))
        ((refine RdJ.all ?_; first | (with_reducible assumption) | (with_reducible exact RdJ.drew (by assumption)) | (with_reducible exact RdJ.alloc (RdJ.drew (by assumption)) _) | (with_reducible refine RdJ.alloc ?_ _; exact RdJAll.out (by assumption)) | (with_reducible (refine RdJ.set_ ?_ _ _; refine RdJ.set_ ?_ _ _; refine RdJ.set_ ?_ _ _; refine RdJ.set_ ?_ _ _; refine RdJ.set_ ?_ _ _; refine RdJ.set_ ?_ _ _; refine RdJ.set_ ?_ _ _; refine RdJ.set_ ?_ _ _; refine RdJ.set_ ?_ _ _; refine RdJ.set_ ?_ _ _; refine RdJ.set_ ?_ _ _; refine RdJ.set_ ?_ _ _; refine RdJ.set_ ?_ _ _); first | with_reducible assumption | exact RdJAll.out (by assumption) | (rename_i hHeld _; exact hHeld.1))))
        (first | (go_at_call 22; refine (Any.bytes_Clone_at Tryd.laysSlK4 a 0 0 (xs.drop 14) _ (by have := HX.out; simp; try omega) (by omega) ?_).mono ?_; (intro i hi; omega); rintro en w' ⟨v', rfl, hown, _, hb⟩; have J2 := RdJ.below (RdJAll.out (by assumption)) hb; have hsz2 := RdJ.size2 (RdJAll.out (by assumption))))
    obtain ⟨cs, hr, hz⟩ := J2.r
    have Z := st13 hr hz (.int .u8 (hn xs 6 0)) (.int .u8 (hn xs 6 1)) (.int .u8 (hn xs 6 2)) (.int .u8 (hn xs 6 3)) (.int .u8 (hn xs 6 4)) (.int .u8 (hn xs 6 5)) (.int .u8 (hn xs 6 6)) (.int .u8 (hn xs 6 7)) (.int .u8 (hn xs 6 8)) (.int .u8 (hn xs 6 9)) (.int .u8 (hn xs 6 10)) (.int .u8 (hn xs 6 11)) (.int .u16 T)
    have Jb : Below w.heap.size w w' := J2.b
    have hsz' := Jb.size
    clear J2 JJ HJ
    have hT3 : Hid (xs.getD 12 0 * 256 + xs.getD 13 0 = T) := by
      obtain ⟨_, _, _, _, _, _, _, _, _, _, _, _, e12, e13⟩ := HE.out
      rw [e12, e13]
      exact HT.out
    have ow := own_mods hown Z.m (by intro k hk; have := (World.ownsRow.lt hown k hk).1; omega)
    have Jf := Jb.trans (Z.m.toBelow (B := w.heap.size) (fun i hi => by omega) hsz')
    have Zr := Z.r
    clear Z hown hb hr hz
    generalize (((((((((((((w'.setCell ⟨w.heap.size, 0, none⟩ (.int .u8 (hn xs 6 0))).setCell ⟨w.heap.size, 1, none⟩ (.int .u8 (hn xs 6 1))).setCell ⟨w.heap.size, 2, none⟩ (.int .u8 (hn xs 6 2))).setCell ⟨w.heap.size, 3, none⟩ (.int .u8 (hn xs 6 3))).setCell ⟨w.heap.size, 4, none⟩ (.int .u8 (hn xs 6 4))).setCell ⟨w.heap.size, 5, none⟩ (.int .u8 (hn xs 6 5))).setCell ⟨w.heap.size, 6, none⟩ (.int .u8 (hn xs 6 6))).setCell ⟨w.heap.size, 7, none⟩ (.int .u8 (hn xs 6 7))).setCell ⟨w.heap.size, 8, none⟩ (.int .u8 (hn xs 6 8))).setCell ⟨w.heap.size, 9, none⟩ (.int .u8 (hn xs 6 9))).setCell ⟨w.heap.size, 10, none⟩ (.int .u8 (hn xs 6 10))).setCell ⟨w.heap.size, 11, none⟩ (.int .u8 (hn xs 6 11))).setCell ⟨w.heap.size, 12, none⟩ (.int .u16 T)) = Wf at *
    have q0 := Zr.cell 0
    have q1 := Zr.cell 1
    have q2 := Zr.cell 2
    have q3 := Zr.cell 3
    have q4 := Zr.cell 4
    have q5 := Zr.cell 5
    have q6 := Zr.cell 6
    have q7 := Zr.cell 7
    have q8 := Zr.cell 8
    have q9 := Zr.cell 9
    have q10 := Zr.cell 10
    have q11 := Zr.cell 11
    have q12 := Zr.cell 12
    simp only [List.getElem?_toArray, List.getElem?_cons_zero, List.getElem?_cons_succ] at q0 q1 q2 q3 q4 q5 q6 q7 q8 q9 q10 q11 q12
    go_wp2_with fail
    refine bodyPost_ret (v := .tuple #[.agg (hd xs 6 T), v', .int .i64 0]) (by simp [results, Tryd.results12, go_sem, hd, hv, q0, q1, q2, q3, q4, q5, q6, q7, q8, q9, q10, q11, q12]) rfl ⟨v', ?_, ?_, Jf⟩
    · rw [hT3.out]
    · exact own_base ow (by omega)
theorem read_any (a : Addr) (n c : Nat) (xs : List Int) (w : World) (hx : xs.length = n) (h0 : 14 ≤ n) (h1 : n ≤ 1600) (hc : At w a xs) (hb : Bs xs) (hcap : n ≤ c) : Calls Tryd.prog 11 #[.slice (some a) n c] w (RdPost xs n w) := by
  by_cases h : c = 14
  · obtain rfl : n = 14 := by omega
    subst h
    exact read_14 a xs w hx hc hb
  · exact read_big a n c xs w hx h0 h1 hc hb hcap h
end Go.Proofs.YteiaojapolpjaaaDoor
