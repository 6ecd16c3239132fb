/- Ether, part 5: ether.Parse, walked. -/
import Derived.Test.YteiaojapolpjaaaDoorEthD
namespace Go.Proofs.YteiaojapolpjaaaDoor
open Go.RowKit Go.WB

theorem splitB_bd (sep : ByteArray) : ∀ (k : Nat) (s : ByteArray), (Lib.splitB sep 0 k s).length ≤ k + 1 ∧ ∀ p ∈ Lib.splitB sep 0 k s, p.size ≤ s.size
  | 0, s => ⟨by simp [Lib.splitB], fun p hp => by simp [Lib.splitB] at hp; rw [hp]; exact Nat.le_refl _⟩
  | k + 1, s => by
    unfold Lib.splitB
    split
    · exact ⟨by simp, fun p hp => by simp at hp; rw [hp]; exact Nat.le_refl _⟩
    · obtain ⟨h1, h2⟩ := splitB_bd sep k (s.extract ((Lib.indexB s sep).toNat + sep.size) s.size)
      refine ⟨by simp; omega, fun p hp => ?_⟩
      rcases List.mem_cons.1 hp with rfl | hp
      · rw [ByteArray.size_extract]; omega
      · have := h2 p hp
        rw [ByteArray.size_extract] at this
        omega

/-- The parts of a text between colons, at most six. -/
def parts (s : ByteArray) : List ByteArray := Lib.splitB colon 0 (min 6 (s.size + 1) - 1) s
def part (s : ByteArray) (j : Nat) : ByteArray := (parts s).getD j ByteArray.empty
theorem part_le (s : ByteArray) (j : Nat) : (part s j).size ≤ s.size := by
  unfold part
  rw [List.getD_eq_getElem?_getD]
  rcases Nat.lt_or_ge j (parts s).length with h | h
  · rw [List.getElem?_eq_getElem h]
    exact (splitB_bd _ _ _).2 _ (List.getElem_mem h)
  · rw [List.getElem?_eq_none h]
    exact Nat.zero_le _
theorem parts_len (s : ByteArray) : (parts s).length ≤ 6 := by
  have := (splitB_bd colon (min 6 (s.size + 1) - 1) s).1
  unfold parts
  omega
/-- The number of the j-th part, if it is one of the first k. -/
def num (s : ByteArray) (k j : Nat) : Nat := if j < k then vl (part s j) else 0
theorem num_lt (s : ByteArray) (k j : Nat) : num s k j < 256 := by
  unfold num
  split
  · have := vl_le (part s j); omega
  · omega
def sixOf (s : ByteArray) (k : Nat) : Array Value := #[.int .u8 (num s k 0), .int .u8 (num s k 1), .int .u8 (num s k 2), .int .u8 (num s k 3), .int .u8 (num s k 4), .int .u8 (num s k 5)]
theorem sixOf_step (s : ByteArray) (k : Nat) (hk : k < 6) : (sixOf s k).setIfInBounds k (.int .u8 (vl (part s k))) = sixOf s (k + 1) := by
  match k, hk with
  | 0, _ => simp [sixOf, num]
  | 1, _ => simp [sixOf, num]
  | 2, _ => simp [sixOf, num]
  | 3, _ => simp [sixOf, num]
  | 4, _ => simp [sixOf, num]
  | 5, _ => simp [sixOf, num]
/-- The address that Parse reads, right or wrong. -/
def six (s : ByteArray) : Six := ⟨num s (parts s).length 0, num s (parts s).length 1, num s (parts s).length 2, num s (parts s).length 3, num s (parts s).length 4, num s (parts s).length 5⟩

/-- What Parse hands back. -/
def ParsePost (s : ByteArray) (w : World) (e : Ending) (w' : World) : Prop :=
  (txt (six s) = s → e = .returned (.tuple #[.agg (six s).vals, .int .i64 0])) ∧ (txt (six s) ≠ s → e = .returned (.tuple #[.agg #[.int .u8 0, .int .u8 0, .int .u8 0, .int .u8 0, .int .u8 0, .int .u8 0], .int .i64 5])) ∧ Below w.heap.size w w'

/-- What the loop keeps. -/
structure PAt (w0 W : World) (N : Nat) (s : ByteArray) (k : Nat) : Prop where
  r : Blk W N 22 #[.int .u8 0, .int .u8 0, .int .u8 0, .int .u8 0, .int .u8 0, .int .u8 0]
  a : Blk W (N + 1) 22 (sixOf s k)
  p : ∀ j, j < (parts s).length → W.cell? ⟨N + 2, j, none⟩ = some (.string (part s j))
  b : Below w0.heap.size w0 W
  n : N + 2 < W.heap.size ∧ w0.heap.size = N
theorem PAt.below {w0 W W' : World} {N k : Nat} {s : ByteArray} (h : PAt w0 W N s k) (hb : Below W.heap.size W W') : PAt w0 W' N s k :=
  ⟨h.r.below hb h.r.lt, h.a.below hb h.a.lt, fun j hj => (hb.cell (p := ⟨N + 2, j, none⟩) h.n.1).trans (h.p j hj), h.b.trans (hb.mono h.b.size), ⟨Nat.lt_of_lt_of_le h.n.1 hb.size, h.n.2⟩⟩
theorem PAt.set_ {w0 W : World} {N k : Nat} {s : ByteArray} (h : PAt w0 W N s k) (hk : k < 6) : PAt w0 (W.setCell ⟨N + 1, k, none⟩ (.int .u8 (vl (part s k)))) N s (k + 1) := by
  have hm : Mods (fun k => k = N + 1) W (W.setCell ⟨N + 1, k, none⟩ (.int .u8 (vl (part s k)))) := (Mods.refl (fun k => k = N + 1) W).setCell (p := ⟨N + 1, k, none⟩) (.inl rfl) _
  have hb : Below (N + 1) W (W.setCell ⟨N + 1, k, none⟩ (.int .u8 (vl (part s k)))) := (Below.refl _ _).setCell (p := ⟨N + 1, k, none⟩) (Nat.le_refl _) _
  refine ⟨h.r.below hb (by omega), ?_, fun j hj => (hm.cell (p := ⟨N + 2, j, none⟩) h.n.1 (by show ¬ N + 2 = N + 1; omega)).trans (h.p j hj), h.b.trans (hb.mono (by have := h.n.2; omega)), ⟨by simpa [World.setCell] using h.n.1, h.n.2⟩⟩
  rw [← sixOf_step s k hk]
  exact h.a.set_ k _

theorem sixOf_at (s : ByteArray) (k : Nat) (hk : k < 6) : (sixOf s k)[k]? = some (.int .u8 (num s k k)) := by
  match k, hk with
  | 0, _ => rfl
  | 1, _ => rfl
  | 2, _ => rfl
  | 3, _ => rfl
  | 4, _ => rfl
  | 5, _ => rfl
theorem parse_start (s : ByteArray) (w W0 : World)
    (hW : W0 = ((w.alloc (.cells (Array.replicate 6 (.int .u8 0)) 22)).alloc (.cells (Array.replicate 6 (.int .u8 0)) 22)).alloc (.cells (Lib.cellsOf (Lib.splitB colon 0 (min 6 (s.size + 1) - 1) s) (min 6 (s.size + 1))) 9)) : PAt w W0 w.heap.size s 0 := by
  subst hW
  have h0 : sixOf s 0 = #[.int .u8 0, .int .u8 0, .int .u8 0, .int .u8 0, .int .u8 0, .int .u8 0] := by simp [sixOf, num]
  refine ⟨((Blk.new w 22 _).alloc _).alloc _, ?_, fun j hj => ?_, ((((Below.refl _ _).alloc (Nat.le_refl _) _).alloc (by simp) _).alloc (by simp; omega) _), by simp, rfl⟩
  · rw [h0]
    exact (Blk.newAt _ 22 _ (by simp)).alloc _
  · rw [(Blk.newAt (g := w.heap.size + 2) _ 9 _ (by simp)).cell j]
    show (Lib.cellsOf (parts s) (min 6 (s.size + 1)))[j]? = some (.string (part s j))
    unfold Lib.cellsOf part
    rw [List.getElem?_toArray, List.getElem?_append_left (by simpa using hj), List.getElem?_map, List.getD_eq_getElem?_getD, List.getElem?_eq_getElem hj]
    rfl

set_option maxHeartbeats 2000000 in
set_option maxRecDepth 100000 in
theorem parse_any (s : ByteArray) (w : World) (hs : s.size ≤ 1000) (hE : Env w) : Calls Tryd.prog 7 #[.string s] w (ParsePost s w) := by
  go_enter Tryd.func7, Tryd.ntmps7
  go_wp2_with fail
  have B0 : Below w.heap.size w ((w.alloc (.cells (Array.replicate 6 (.int .u8 0)) 22)).alloc (.cells (Array.replicate 6 (.int .u8 0)) 22)) := ((Below.refl _ _).alloc (Nat.le_refl _) _).alloc (by simp) _
  have E0 := hE.below B0
  refine (Any.strings_SplitN_shaped Tryd.laysM147 s colon 6 _ E0.sh (by omega) (by decide) (by omega) (by omega)).mono ?_
  rintro e W0 ⟨he, hW⟩
  have hsz : ((w.alloc (.cells (Array.replicate 6 (.int .u8 0)) 22)).alloc (.cells (Array.replicate 6 (.int .u8 0)) 22)).heap.size = w.heap.size + 2 := by simp
  rw [hsz] at he
  subst he
  have P0 : PAt w W0 w.heap.size s 0 := parse_start s w W0 hW
  clear B0 E0 hW hsz
  have hLen := parts_len s
  obtain ⟨L, hL⟩ : ∃ L, (Lib.splitB colon 0 (min 6 (s.size + 1) - 1) s).length = L := ⟨_, rfl⟩
  have hL' : (parts s).length = L := hL
  obtain ⟨C, hC⟩ : ∃ C, min 6 (s.size + 1) = C := ⟨_, rfl⟩
  rw [hL, hC]
  rw [hL'] at hLen
  have HL := Lib.hid hL'
  clear hL hL' hC
  go_wp2_with fail
  go_loopw [12] (fun vi wr => ∃ k : Nat, vi = .int .i64 k ∧ k ≤ L ∧ PAt w wr w.heap.size s k) (fun vi _ => L - (intOf vi).toNat)
  case atStart => exact ⟨0, rfl, Nat.zero_le _, P0⟩
  case round =>
    obtain ⟨k, rfl, hk, PA⟩ := hrel
    clear P0
    by_cases hkL : k < L
    · have hp := PA.p k (by rw [HL.out]; exact hkL)
      have hk0 : (0 : Int) ≤ (k : Int) := by omega
      have hk6 : (k : Int) < 6 := by omega
      go_wp2_with fail
      refine (pu_out_any (part s k) _ (by have := part_le s k; omega) (hE.below PA.b)).mono ?_
      rintro e w1 ⟨ev, rfl, hb⟩
      have PB := PA.below hb
      have hv := vl_le (part s k)
      have hv' : ((vl (part s k) : Nat) : Int) ≤ 255 := by omega
      have hfz := PB.a.frozen k
      have hcl : ∃ u, wr.cell? ⟨0, 0, none⟩ = u := ⟨_, rfl⟩
      clear PA hp hb hcl
      have hcell : w1.cell? ⟨w.heap.size + 1, k, none⟩ = some (.int .u8 (num s k k)) := by
        rw [PB.a.cell k]
        exact sixOf_at s k (by omega)
      have PC := PB.set_ (by omega : k < 6)
      clear PB
      go_wp2_with fail
      go_roundw
      case rel => exact ⟨k + 1, by go_num, by omega, PC⟩
      case measure => simp [intOf]; omega
    · have hkk : k = L := by omega
      subst hkk
      have hx : sixOf s k = (six s).vals := by rw [← HL.out]; rfl
      have X := PA.a
      rw [hx] at X
      obtain ⟨c0, c1, c2, c3, c4, c5⟩ := SixBlk.cells (a := (six s).a) (b := (six s).b) (c := (six s).c) (d := (six s).d) (e := (six s).e) (f := (six s).f) X
      clear hx X
      go_wp2_with fail
      refine (text_any _ _ _ _ _ _ _ (hE.below PA.b) (num_lt _ _ _) (num_lt _ _ _) (num_lt _ _ _) (num_lt _ _ _) (num_lt _ _ _) (num_lt _ _ _)).mono ?_
      rintro e w1 ⟨he, hb⟩
      obtain ⟨T, hT⟩ : ∃ T, txt (six s) = T := ⟨_, rfl⟩
      have he2 : e = .returned (.string T) := he.trans (by rw [← hT]; rfl)
      clear he
      subst he2
      have PB := PA.below hb
      clear PA hb c0 c1 c2 c3 c4 c5
      have hx : sixOf s k = (six s).vals := by rw [← HL.out]; rfl
      have X := PB.a
      rw [hx] at X
      obtain ⟨c0, c1, c2, c3, c4, c5⟩ := SixBlk.cells (a := (six s).a) (b := (six s).b) (c := (six s).c) (d := (six s).d) (e := (six s).e) (f := (six s).f) X
      obtain ⟨z0, z1, z2, z3, z4, z5⟩ := SixBlk.cells (a := 0) (b := 0) (c := 0) (d := 0) (e := 0) (f := 0) PB.r
      have f0 := PB.r.frozen 0
      have f1 := PB.r.frozen 1
      have f2 := PB.r.frozen 2
      have f3 := PB.r.frozen 3
      have f4 := PB.r.frozen 4
      have f5 := PB.r.frozen 5
      clear hx X
      by_cases heq : T = s
      · have hbq : (T.toList == s.toList) = true := by rw [heq]; simp
        have HQ := Lib.hid heq
        have HT := Lib.hid hT
        clear hT heq
        go_wp2_with fail
        refine bodyPost_ret (v := .tuple #[.agg #[.int .u8 (six s).a, .int .u8 (six s).b, .int .u8 (six s).c, .int .u8 (six s).d, .int .u8 (six s).e, .int .u8 (six s).f], .int .i64 0]) (by simp [results, Tryd.results7, go_sem, z0, z1, z2, z3, z4, z5]) rfl ⟨fun _ => rfl, fun h => absurd (HT.out.trans HQ.out) h, ?_⟩
        exact (((((PB.b.setCell (p := ⟨w.heap.size, 0, none⟩) (Nat.le_refl _) _).setCell (p := ⟨w.heap.size, 1, none⟩) (Nat.le_refl _) _).setCell (p := ⟨w.heap.size, 2, none⟩) (Nat.le_refl _) _).setCell (p := ⟨w.heap.size, 3, none⟩) (Nat.le_refl _) _).setCell (p := ⟨w.heap.size, 4, none⟩) (Nat.le_refl _) _).setCell (p := ⟨w.heap.size, 5, none⟩) (Nat.le_refl _) _
      · have hbq : (T.toList == s.toList) = false := by
          rw [beq_eq_false_iff_ne]
          intro h
          apply heq
          rw [Lib.toList_data, Lib.toList_data] at h
          cases T with
          | mk xd => cases s with
            | mk yd => exact congrArg ByteArray.mk (Array.toList_inj.1 h)
        have HQ := Lib.hid heq
        have HT := Lib.hid hT
        clear hT heq c0 c1 c2 c3 c4 c5
        go_wp2_with fail
        refine bodyPost_ret (v := .tuple #[.agg #[.int .u8 0, .int .u8 0, .int .u8 0, .int .u8 0, .int .u8 0, .int .u8 0], .int .i64 5]) (by simp [results, Tryd.results7, go_sem, z0, z1, z2, z3, z4, z5]) rfl ⟨fun h => absurd (HT.out.symm.trans h) HQ.out, fun _ => rfl, ?_⟩
        exact (((((PB.b.setCell (p := ⟨w.heap.size, 0, none⟩) (Nat.le_refl _) _).setCell (p := ⟨w.heap.size, 1, none⟩) (Nat.le_refl _) _).setCell (p := ⟨w.heap.size, 2, none⟩) (Nat.le_refl _) _).setCell (p := ⟨w.heap.size, 3, none⟩) (Nat.le_refl _) _).setCell (p := ⟨w.heap.size, 4, none⟩) (Nat.le_refl _) _).setCell (p := ⟨w.heap.size, 5, none⟩) (Nat.le_refl _) _
end Go.Proofs.YteiaojapolpjaaaDoor
