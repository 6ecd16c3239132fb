/- Ether, part 2: an address as text. -/
import Derived.Test.YteiaojapolpjaaaDoorEthA
import Derived.ProofKit
namespace Go.Proofs.YteiaojapolpjaaaDoor
open Go.RowKit Go.WB

/-- What the package-level variables hold that the library reads. -/
structure Env (w : World) : Prop where
  tz : w.cell? ⟨7, 15, none⟩ = some (.int .u8 4)
  lt : 7 < w.heap.size
  sh : w.ShapedOpen Tryd.prog
  es : ∃ te pe, w.cell? ⟨0, 0, none⟩ = some (.iface te pe)
  er : ∃ te pe, w.cell? ⟨1, 0, none⟩ = some (.iface te pe)
theorem Env.below {w w' : World} (h : Env w) (hb : Below w.heap.size w w') : Env w' :=
  ⟨(hb.cell (p := ⟨7, 15, none⟩) h.lt).trans h.tz, Nat.lt_of_lt_of_le h.lt hb.size, h.sh.keptBut (hb.frame (fun _ => False)) (fun _ h => h.elim),
    by obtain ⟨te, pe, hc⟩ := h.es; exact ⟨te, pe, (hb.cell (p := ⟨0, 0, none⟩) (by have := h.lt; show 0 < w.heap.size; omega)).trans hc⟩,
    by obtain ⟨te, pe, hc⟩ := h.er; exact ⟨te, pe, (hb.cell (p := ⟨1, 0, none⟩) (by have := h.lt; show 1 < w.heap.size; omega)).trans hc⟩⟩

/-- An address of six bytes. -/
structure Six where
  (a b c d e f : Nat)
def Six.ok (x : Six) : Prop := x.a < 256 ∧ x.b < 256 ∧ x.c < 256 ∧ x.d < 256 ∧ x.e < 256 ∧ x.f < 256
def Six.vals (x : Six) : Array Value := #[.int .u8 x.a, .int .u8 x.b, .int .u8 x.c, .int .u8 x.d, .int .u8 x.e, .int .u8 x.f]
def colon : ByteArray := ⟨#[58]⟩
def txt (x : Six) : ByteArray := ((((two x.a ++ (colon ++ two x.b)) ++ (colon ++ two x.c)) ++ (colon ++ two x.d)) ++ (colon ++ two x.e)) ++ (colon ++ two x.f)

theorem SixBlk.cells {W : World} {N : Nat} {a b c d e f : Nat} (h : Blk W N 22 #[.int .u8 a, .int .u8 b, .int .u8 c, .int .u8 d, .int .u8 e, .int .u8 f]) :
    W.cell? ⟨N, 0, none⟩ = some (.int .u8 a) ∧ W.cell? ⟨N, 1, none⟩ = some (.int .u8 b) ∧ W.cell? ⟨N, 2, none⟩ = some (.int .u8 c) ∧ W.cell? ⟨N, 3, none⟩ = some (.int .u8 d) ∧ W.cell? ⟨N, 4, none⟩ = some (.int .u8 e) ∧ W.cell? ⟨N, 5, none⟩ = some (.int .u8 f) :=
  ⟨h.cell 0, h.cell 1, h.cell 2, h.cell 3, h.cell 4, h.cell 5⟩

set_option maxHeartbeats 2000000 in
set_option maxRecDepth 100000 in
theorem text_any (a b c d e f : Nat) (w : World) (hE : Env w) (h0 : a < 256) (h1 : b < 256) (h2 : c < 256) (h3 : d < 256) (h4 : e < 256) (h5 : f < 256) :
    Calls Tryd.prog 9 #[.agg #[.int .u8 a, .int .u8 b, .int .u8 c, .int .u8 d, .int .u8 e, .int .u8 f]] w fun en w' => en = .returned (.string (txt ⟨a, b, c, d, e, f⟩)) ∧ Below w.heap.size w w' := by
  have hs : ∀ x, (two x).size = 2 := fun _ => rfl
  go_enter Tryd.func9, Tryd.ntmps9
  go_wp2_with fail
  have X0 : Blk (w.alloc (.cells #[.int .u8 a, .int .u8 b, .int .u8 c, .int .u8 d, .int .u8 e, .int .u8 f] 22)) w.heap.size 22 #[.int .u8 a, .int .u8 b, .int .u8 c, .int .u8 d, .int .u8 e, .int .u8 f] := Blk.new _ _ _
  have B0 : Below w.heap.size w (w.alloc (.cells #[.int .u8 a, .int .u8 b, .int .u8 c, .int .u8 d, .int .u8 e, .int .u8 f] 22)) := (Below.refl _ _).alloc (Nat.le_refl _) _
  have E0 := hE.below B0
  generalize (w.alloc (.cells #[.int .u8 a, .int .u8 b, .int .u8 c, .int .u8 d, .int .u8 e, .int .u8 f] 22)) = W0 at *
  refine (text1 _ _ h0 E0.tz E0.lt).mono ?_
  rintro en W1 ⟨rfl, hb⟩
  have X1 := X0.below hb X0.lt
  have E1 := E0.below hb
  have B1 := B0.trans (hb.mono B0.size)
  clear hb X0 E0 B0
  obtain ⟨q0, q1, q2, q3, q4, q5⟩ := SixBlk.cells X1
  go_wp2_with fail
  refine wp_loop_rounds 6 ?_
  rw [rounds_succ]
  clear h0
  go_wp2_with fail
  clear q0 q1 q2 q3 q4 q5
  refine (text1 _ _ h1 E1.tz E1.lt).mono ?_
  rintro en W2 ⟨rfl, hb⟩
  have X2 := X1.below hb X1.lt
  have E2 := E1.below hb
  have B2 := B1.trans (hb.mono B1.size)
  clear hb X1 E1 B1 h1
  obtain ⟨q0, q1, q2, q3, q4, q5⟩ := SixBlk.cells X2
  go_wp2_with fail
  rw [rounds_succ]
  go_wp2_with fail
  clear q0 q1 q2 q3 q4 q5
  refine (text1 _ _ h2 E2.tz E2.lt).mono ?_
  rintro en W3 ⟨rfl, hb⟩
  have X3 := X2.below hb X2.lt
  have E3 := E2.below hb
  have B3 := B2.trans (hb.mono B2.size)
  clear hb X2 E2 B2 h2
  obtain ⟨q0, q1, q2, q3, q4, q5⟩ := SixBlk.cells X3
  go_wp2_with fail
  rw [rounds_succ]
  go_wp2_with fail
  clear q0 q1 q2 q3 q4 q5
  refine (text1 _ _ h3 E3.tz E3.lt).mono ?_
  rintro en W4 ⟨rfl, hb⟩
  have X4 := X3.below hb X3.lt
  have E4 := E3.below hb
  have B4 := B3.trans (hb.mono B3.size)
  clear hb X3 E3 B3 h3
  obtain ⟨q0, q1, q2, q3, q4, q5⟩ := SixBlk.cells X4
  go_wp2_with fail
  rw [rounds_succ]
  go_wp2_with fail
  clear q0 q1 q2 q3 q4 q5
  refine (text1 _ _ h4 E4.tz E4.lt).mono ?_
  rintro en W5 ⟨rfl, hb⟩
  have X5 := X4.below hb X4.lt
  have E5 := E4.below hb
  have B5 := B4.trans (hb.mono B4.size)
  clear hb X4 E4 B4 h4
  obtain ⟨q0, q1, q2, q3, q4, q5⟩ := SixBlk.cells X5
  go_wp2_with fail
  rw [rounds_succ]
  go_wp2_with fail
  clear q0 q1 q2 q3 q4 q5
  refine (text1 _ _ h5 E5.tz E5.lt).mono ?_
  rintro en W6 ⟨rfl, hb⟩
  have X6 := X5.below hb X5.lt
  have E6 := E5.below hb
  have B6 := B5.trans (hb.mono B5.size)
  clear hb X5 E5 B5 h5
  obtain ⟨q0, q1, q2, q3, q4, q5⟩ := SixBlk.cells X6
  go_wp2_with fail
  rw [rounds_succ]
  go_wp2_with fail
  go_ret
  exact ⟨rfl, B6⟩

end Go.Proofs.YteiaojapolpjaaaDoor
