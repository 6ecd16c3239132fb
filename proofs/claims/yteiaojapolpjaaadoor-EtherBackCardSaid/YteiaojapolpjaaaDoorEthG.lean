/- Ether, part 7: the reference's Parse, walked. -/
import Derived.Test.YteiaojapolpjaaaDoorEthB
import Derived.IntWalk
namespace Go.Proofs.YteiaojapolpjaaaDoor
open Go.RowKit Go.WB

/-- A digit's value; 16: it is none. -/
def rd (c : Nat) : Nat := if 48 ≤ c ∧ c ≤ 57 then c - 48 else if 97 ≤ c ∧ c ≤ 102 then c - 87 else 16
theorem rd_le (c : Nat) : rd c ≤ 16 := by
  unfold rd
  split
  · omega
  · split <;> omega
theorem digit_any (c : Nat) (w : World) (hc : c < 256) : Calls Tryd.prog 19 #[.int .u8 c] w fun e w' => e = .returned (.int .u8 (rd c)) ∧ w' = w := by
  by_cases h1 : 48 ≤ c ∧ c ≤ 57
  · have hr : rd c = c - 48 := by unfold rd; rw [if_pos h1]
    have e1 : ((rd c : Nat) : Int) = (c : Int) - 48 := by omega
    rw [e1]
    clear hr e1
    obtain ⟨a1, a2⟩ := h1
    have b1 : (48 : Int) ≤ (c : Int) := by omega
    have b2 : (c : Int) ≤ 57 := by omega
    go_enter Tryd.func19, Tryd.ntmps19
    go_wp2
    go_ret
    exact ⟨rfl, rfl⟩
  · by_cases h2 : 97 ≤ c ∧ c ≤ 102
    · have hr : rd c = c - 87 := by unfold rd; rw [if_neg h1, if_pos h2]
      have e1 : ((rd c : Nat) : Int) = (c : Int) - 97 + 10 := by omega
      rw [e1]
      clear hr e1 h1
      obtain ⟨a1, a2⟩ := h2
      have b1 : (97 : Int) ≤ (c : Int) := by omega
      have b2 : (c : Int) ≤ 102 := by omega
      go_enter Tryd.func19, Tryd.ntmps19
      go_wp2
      go_ret
      exact ⟨rfl, rfl⟩
    · have hr : rd c = 16 := by unfold rd; rw [if_neg h1, if_neg h2]
      have e1 : ((rd c : Nat) : Int) = 16 := by omega
      rw [e1]
      have c1 : (c : Int) < 48 ∨ (57 < (c : Int) ∧ (c : Int) < 97) ∨ 102 < (c : Int) := by omega
      clear hr e1 h1 h2
      rcases c1 with c1 | ⟨c1, c2⟩ | c1
      all_goals
        go_enter Tryd.func19, Tryd.ntmps19
        go_wp2
        go_ret
        exact ⟨rfl, rfl⟩

/-- The j-th byte of a text. -/
def byt (s : ByteArray) (j : Nat) : Nat := (s.data.toList.getD j 0).toNat
theorem byt_lt (s : ByteArray) (j : Nat) : byt s j < 256 := UInt8.toNat_lt _
/-- May the j-th part of a text be? -/
def good (s : ByteArray) (j : Nat) : Prop := rd (byt s (3 * j)) ≤ 15 ∧ rd (byt s (3 * j + 1)) ≤ 15 ∧ (j < 5 → byt s (3 * j + 2) = 58)
def rnum (s : ByteArray) (k j : Nat) : Nat := if j < k then rd (byt s (3 * j)) * 16 + rd (byt s (3 * j + 1)) else 0
def rsix (s : ByteArray) (k : Nat) : Array Value := #[.int .u8 (rnum s k 0), .int .u8 (rnum s k 1), .int .u8 (rnum s k 2), .int .u8 (rnum s k 3), .int .u8 (rnum s k 4), .int .u8 (rnum s k 5)]
theorem rsix_step (s : ByteArray) (k : Nat) (hk : k < 6) : (rsix s k).setIfInBounds k (.int .u8 ((rd (byt s (3 * k)) * 16 + rd (byt s (3 * k + 1)) : Nat) : Int)) = rsix s (k + 1) := by
  match k, hk with
  | 0, _ => simp [rsix, rnum]
  | 1, _ => simp [rsix, rnum]
  | 2, _ => simp [rsix, rnum]
  | 3, _ => simp [rsix, rnum]
  | 4, _ => simp [rsix, rnum]
  | 5, _ => simp [rsix, rnum]
theorem rsix_at (s : ByteArray) (k : Nat) (hk : k < 6) : (rsix s k)[k]? = some (.int .u8 (rnum s k k)) := by
  match k, hk with
  | 0, _ => rfl
  | 1, _ => rfl
  | 2, _ => rfl
  | 3, _ => rfl
  | 4, _ => rfl
  | 5, _ => rfl

theorem idx_byt (s : ByteArray) (i : Int) (j : Nat) (h : i = j) (hj : j < s.size) (W : World) : (Instr.index 9 (.string s) (.int .i64 i)).run Tryd.prog W = .ok (.int .u8 (byt s j)) W := by
  subst h
  rw [run_index_string W 9 s .i64 (j : Int) Tryd.underlying9, dif_pos ⟨by omega, by omega⟩]
  have hl : j < s.data.toList.length := by
    have : s.data.toList.length = s.size := by rw [Array.length_toList]; rfl
    omega
  have e : byt s j = (s[((j : Int).toNat)]'(by omega)).toNat := by
    unfold byt
    rw [List.getD_eq_getElem?_getD, List.getElem?_eq_getElem hl]
    rfl
  rw [e]
/-- What the reference's Parse hands back of a text of 17 bytes. -/
def RPost (s : ByteArray) (w : World) (e : Ending) (w' : World) : Prop :=
  ((∀ j, j < 6 → good s j) → e = .returned (.tuple #[.agg (rsix s 6), .int .i64 0])) ∧ ((∃ j, j < 6 ∧ ¬ good s j) → e = .returned (.tuple #[.agg #[.int .u8 0, .int .u8 0, .int .u8 0, .int .u8 0, .int .u8 0, .int .u8 0], .int .i64 5])) ∧ Below w.heap.size w w'

structure RAt (w0 W : World) (N : Nat) (s : ByteArray) (k : Nat) : Prop where
  r : Blk W N 22 #[.int .u8 0, .int .u8 0, .int .u8 0, .int .u8 0, .int .u8 0, .int .u8 0]
  a : Blk W (N + 1) 22 (rsix s k)
  z : Blk W (N + 2) 22 #[.int .u8 0, .int .u8 0, .int .u8 0, .int .u8 0, .int .u8 0, .int .u8 0]
  b : Below w0.heap.size w0 W
  n : w0.heap.size = N
  g : ∀ j, j < k → good s j
theorem RAt.drewN {w0 W : World} {N k : Nat} {s : ByteArray} (h : RAt w0 W N s k) (q : Nat) : RAt w0 (W.drewN q) N s k := ⟨h.r, h.a, h.z, below_drewN h.b q, h.n, h.g⟩

theorem RAt.set_ {w0 W : World} {N k X Y : Nat} {s : ByteArray} (h : RAt w0 W N s k) (hk : k < 6) (hX : rd (byt s (3 * k)) = X) (hY : rd (byt s (3 * k + 1)) = Y) (hx : X ≤ 15) (hy : Y ≤ 15) (hc : k < 5 → byt s (3 * k + 2) = 58) :
    RAt w0 (W.setCell ⟨N + 1, k, none⟩ (.int .u8 ((X : Int) * 16 + (Y : Int)))) N s (k + 1) := by
  have hb : Below (N + 1) W (W.setCell ⟨N + 1, k, none⟩ (.int .u8 ((X : Int) * 16 + (Y : Int)))) := (Below.refl _ _).setCell (p := ⟨N + 1, k, none⟩) (Nat.le_refl _) _
  refine ⟨h.r.below hb (by omega), ?_, h.z.far (p := ⟨N + 1, k, none⟩) (by show N + 2 ≠ N + 1; omega) _, h.b.trans (hb.mono (by have := h.n; omega)), h.n, fun j hj => ?_⟩
  · rw [← rsix_step s k hk, hX, hY]
    have e : ((X * 16 + Y : Nat) : Int) = (X : Int) * 16 + (Y : Int) := by omega
    rw [e]
    exact h.a.set_ k _
  · rcases Nat.lt_or_ge j k with hj' | hj'
    · exact h.g j hj'
    · have : j = k := by omega
      subst this
      exact ⟨by omega, by omega, hc⟩

set_option maxHeartbeats 4000000 in
set_option maxRecDepth 100000 in
theorem rparse_walk (s : ByteArray) (w : World) (hs : s.size = 17) : Calls Tryd.prog 8 #[.string s] w (RPost s w) := by
  have hs0 : ((s.size : Int) != 17) = false := by rw [bne_eq_false_iff_eq]; omega
  go_enter Tryd.func8, Tryd.ntmps8
  go_wp2_with fail
  have A0 : RAt w (((w.alloc (.cells #[.int .u8 0, .int .u8 0, .int .u8 0, .int .u8 0, .int .u8 0, .int .u8 0] 22)).alloc (.cells #[.int .u8 0, .int .u8 0, .int .u8 0, .int .u8 0, .int .u8 0, .int .u8 0] 22)).alloc (.cells #[.int .u8 0, .int .u8 0, .int .u8 0, .int .u8 0, .int .u8 0, .int .u8 0] 22)) w.heap.size s 0 := by
    have h0 : rsix s 0 = #[.int .u8 0, .int .u8 0, .int .u8 0, .int .u8 0, .int .u8 0, .int .u8 0] := by simp [rsix, rnum]
    refine ⟨((Blk.new w 22 _).alloc _).alloc _, ?_, Blk.newAt _ _ _ (by simp), ((((Below.refl _ _).alloc (Nat.le_refl _) _).alloc (by simp) _).alloc (by simp; omega) _), rfl, fun j hj => by omega⟩
    rw [h0]
    exact (Blk.newAt _ 22 _ (by simp)).alloc _
  generalize (((w.alloc (.cells #[.int .u8 0, .int .u8 0, .int .u8 0, .int .u8 0, .int .u8 0, .int .u8 0] 22)).alloc (.cells #[.int .u8 0, .int .u8 0, .int .u8 0, .int .u8 0, .int .u8 0, .int .u8 0] 22)).alloc (.cells #[.int .u8 0, .int .u8 0, .int .u8 0, .int .u8 0, .int .u8 0, .int .u8 0] 22)) = W0 at *
  have HS := Lib.hid hs
  have hsz : (17 : Int) ≤ (s.size : Int) := by omega
  clear hs0
  go_loopw [6] (fun vi wr => ∃ k : Nat, vi = .int .i64 k ∧ k ≤ 6 ∧ RAt w wr w.heap.size s k) (fun vi _ => 6 - (intOf vi).toNat)
  case atStart => exact ⟨0, rfl, Nat.zero_le _, A0⟩
  case round =>
    obtain ⟨k, rfl, hk, A⟩ := hrel
    clear A0
    by_cases hk6 : k < 6
    · have b1 : (k : Int) < 6 := by omega
      have b0 : (0 : Int) ≤ (k : Int) := by omega
      have hw1 : IntKind.i64.wrap (3 * (k : Int)) = 3 * (k : Int) := IntWalk.i64_in _ (by omega)
      have hw2 : IntKind.i64.wrap (3 * (k : Int) + 1) = 3 * (k : Int) + 1 := IntWalk.i64_in _ (by omega)
      have i0 := idx_byt s (3 * (k : Int)) (3 * k) (by omega) (by have := HS.out; omega)
      have i1 := idx_byt s (3 * (k : Int) + 1) (3 * k + 1) (by omega) (by have := HS.out; omega)
      go_wp2_with fail
      go_quiet ((go_at_call 19; exact Calls.quiet_of_same (digit_any _ _ (byt_lt _ _))))
      rename_i nq
      have AQ : RAt w (wr.drewN nq) w.heap.size s k := A.drewN nq
      clear A i0 i1 hw1 hw2
      obtain ⟨z0, z1, z2, z3, z4, z5⟩ := SixBlk.cells (a := 0) (b := 0) (c := 0) (d := 0) (e := 0) (f := 0) AQ.r
      obtain ⟨y0, y1, y2, y3, y4, y5⟩ := SixBlk.cells (a := 0) (b := 0) (c := 0) (d := 0) (e := 0) (f := 0) AQ.z
      have f0 := AQ.r.frozen 0
      have f1 := AQ.r.frozen 1
      have f2 := AQ.r.frozen 2
      have f3 := AQ.r.frozen 3
      have f4 := AQ.r.frozen 4
      have f5 := AQ.r.frozen 5
      have hx := rd_le (byt s (3 * k))
      have hy := rd_le (byt s (3 * k + 1))
      obtain ⟨X, hX⟩ : ∃ X, rd (byt s (3 * k)) = X := ⟨_, rfl⟩
      obtain ⟨Y, hY⟩ : ∃ Y, rd (byt s (3 * k + 1)) = Y := ⟨_, rfl⟩
      rw [hX] at hx ⊢
      rw [hY] at hy ⊢
      have HX := Lib.hid hX
      have HY := Lib.hid hY
      clear hX hY
      by_cases hx15 : X ≤ 15
      · by_cases hy15 : Y ≤ 15
        · have hx2 : (X : Int) ≤ 15 := by omega
          have hy2 : (Y : Int) ≤ 15 := by omega
          by_cases hk5 : k < 5
          · have hw3 : IntKind.i64.wrap (3 * (k : Int) + 2) = 3 * (k : Int) + 2 := IntWalk.i64_in _ (by omega)
            have i2 := idx_byt s (3 * (k : Int) + 2) (3 * k + 2) (by omega) (by have := HS.out; omega)
            have hk52 : (k : Int) < 5 := by omega
            obtain ⟨Z, hZ⟩ : ∃ Z, byt s (3 * k + 2) = Z := ⟨_, rfl⟩
            rw [hZ] at i2
            by_cases h58 : Z = 58
            · have AS : RAt w ((wr.drewN nq).setCell ⟨w.heap.size + 1, k, none⟩ (.int .u8 ((X : Int) * 16 + (Y : Int)))) w.heap.size s (k + 1) := AQ.set_ hk6 HX.out HY.out hx15 hy15 (fun _ => hZ.trans h58)
              have fa := AQ.a.frozen k
              have ca : (wr.drewN nq).cell? ⟨w.heap.size + 1, k, none⟩ = some (.int .u8 (rnum s k k)) := (AQ.a.cell k).trans (rsix_at s k hk6)
              subst h58
              clear hZ AQ z0 z1 z2 z3 z4 z5 y0 y1 y2 y3 y4 y5 f0 f1 f2 f3 f4 f5
              go_wp2_with fail
              go_roundw
              case rel => exact ⟨k + 1, by go_num, by omega, AS⟩
              case measure => simp [intOf]; omega
            · have NG : Hid (¬ good s k) := fun h => h58 (hZ.symm.trans (h.2.2 hk5))
              have h58b : ((Z : Int) != 58) = true := by rw [bne_iff_ne]; omega
              clear hZ
              go_wp2_with fail
              refine bodyPost_ret (v := .tuple #[.agg #[.int .u8 0, .int .u8 0, .int .u8 0, .int .u8 0, .int .u8 0, .int .u8 0], .int .i64 5]) (by simp [results, Tryd.results8, go_sem, z0, z1, z2, z3, z4, z5]) rfl ⟨fun h => absurd (h k hk6) NG.out, fun _ => rfl, ?_⟩
              exact (((((AQ.b.setCell (p := ⟨w.heap.size, 0, none⟩) (Nat.le_refl _) _).setCell (p := ⟨w.heap.size, 1, none⟩) (Nat.le_refl _) _).setCell (p := ⟨w.heap.size, 2, none⟩) (Nat.le_refl _) _).setCell (p := ⟨w.heap.size, 3, none⟩) (Nat.le_refl _) _).setCell (p := ⟨w.heap.size, 4, none⟩) (Nat.le_refl _) _).setCell (p := ⟨w.heap.size, 5, none⟩) (Nat.le_refl _) _
          · have hk52 : ¬ (k : Int) < 5 := by omega
            have hk52d : decide ((k : Int) < 5) = false := decide_eq_false hk52
            have AS : RAt w ((wr.drewN nq).setCell ⟨w.heap.size + 1, k, none⟩ (.int .u8 ((X : Int) * 16 + (Y : Int)))) w.heap.size s (k + 1) := AQ.set_ hk6 HX.out HY.out hx15 hy15 (fun h => absurd h hk5)
            have fa := AQ.a.frozen k
            have ca : (wr.drewN nq).cell? ⟨w.heap.size + 1, k, none⟩ = some (.int .u8 (rnum s k k)) := (AQ.a.cell k).trans (rsix_at s k hk6)
            clear AQ z0 z1 z2 z3 z4 z5 y0 y1 y2 y3 y4 y5 f0 f1 f2 f3 f4 f5
            go_wp2_with fail
            go_roundw
            case rel => exact ⟨k + 1, by go_num, by omega, AS⟩
            case measure => simp [intOf]; omega
        · have hy2 : (15 : Int) < (Y : Int) := by omega
          have hx2 : (X : Int) ≤ 15 := by omega
          have NG : Hid (¬ good s k) := fun h => hy15 (by rw [← HY.out]; exact h.2.1)
          go_wp2_with fail
          refine bodyPost_ret (v := .tuple #[.agg #[.int .u8 0, .int .u8 0, .int .u8 0, .int .u8 0, .int .u8 0, .int .u8 0], .int .i64 5]) (by simp [results, Tryd.results8, go_sem, z0, z1, z2, z3, z4, z5]) rfl ⟨fun h => absurd (h k hk6) NG.out, fun _ => rfl, ?_⟩
          exact (((((AQ.b.setCell (p := ⟨w.heap.size, 0, none⟩) (Nat.le_refl _) _).setCell (p := ⟨w.heap.size, 1, none⟩) (Nat.le_refl _) _).setCell (p := ⟨w.heap.size, 2, none⟩) (Nat.le_refl _) _).setCell (p := ⟨w.heap.size, 3, none⟩) (Nat.le_refl _) _).setCell (p := ⟨w.heap.size, 4, none⟩) (Nat.le_refl _) _).setCell (p := ⟨w.heap.size, 5, none⟩) (Nat.le_refl _) _
      · have hx2 : (15 : Int) < (X : Int) := by omega
        have NG : Hid (¬ good s k) := fun h => hx15 (by rw [← HX.out]; exact h.1)
        go_wp2_with fail
        refine bodyPost_ret (v := .tuple #[.agg #[.int .u8 0, .int .u8 0, .int .u8 0, .int .u8 0, .int .u8 0, .int .u8 0], .int .i64 5]) (by simp [results, Tryd.results8, go_sem, z0, z1, z2, z3, z4, z5]) rfl ⟨fun h => absurd (h k hk6) NG.out, fun _ => rfl, ?_⟩
        exact (((((AQ.b.setCell (p := ⟨w.heap.size, 0, none⟩) (Nat.le_refl _) _).setCell (p := ⟨w.heap.size, 1, none⟩) (Nat.le_refl _) _).setCell (p := ⟨w.heap.size, 2, none⟩) (Nat.le_refl _) _).setCell (p := ⟨w.heap.size, 3, none⟩) (Nat.le_refl _) _).setCell (p := ⟨w.heap.size, 4, none⟩) (Nat.le_refl _) _).setCell (p := ⟨w.heap.size, 5, none⟩) (Nat.le_refl _) _
    · obtain rfl : k = 6 := by omega
      obtain ⟨c0, c1, c2, c3, c4, c5⟩ := SixBlk.cells (a := rnum s 6 0) (b := rnum s 6 1) (c := rnum s 6 2) (d := rnum s 6 3) (e := rnum s 6 4) (f := rnum s 6 5) A.a
      obtain ⟨z0, z1, z2, z3, z4, z5⟩ := SixBlk.cells (a := 0) (b := 0) (c := 0) (d := 0) (e := 0) (f := 0) A.r
      have f0 := A.r.frozen 0
      have f1 := A.r.frozen 1
      have f2 := A.r.frozen 2
      have f3 := A.r.frozen 3
      have f4 := A.r.frozen 4
      have f5 := A.r.frozen 5
      go_wp2_with fail
      refine bodyPost_ret (v := .tuple #[.agg #[.int .u8 (rnum s 6 0), .int .u8 (rnum s 6 1), .int .u8 (rnum s 6 2), .int .u8 (rnum s 6 3), .int .u8 (rnum s 6 4), .int .u8 (rnum s 6 5)], .int .i64 0]) (by simp [results, Tryd.results8, go_sem, z0, z1, z2, z3, z4, z5]) rfl ⟨fun _ => rfl, fun ⟨j, hj, hn⟩ => absurd (A.g j hj) hn, ?_⟩
      exact (((((A.b.setCell (p := ⟨w.heap.size, 0, none⟩) (Nat.le_refl _) _).setCell (p := ⟨w.heap.size, 1, none⟩) (Nat.le_refl _) _).setCell (p := ⟨w.heap.size, 2, none⟩) (Nat.le_refl _) _).setCell (p := ⟨w.heap.size, 3, none⟩) (Nat.le_refl _) _).setCell (p := ⟨w.heap.size, 4, none⟩) (Nat.le_refl _) _).setCell (p := ⟨w.heap.size, 5, none⟩) (Nat.le_refl _) _
end Go.Proofs.YteiaojapolpjaaaDoor
