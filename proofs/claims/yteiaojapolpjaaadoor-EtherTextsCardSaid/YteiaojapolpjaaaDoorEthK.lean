/- Ether, part 11: EtherTexts, walked. -/
import Derived.Test.YteiaojapolpjaaaDoorEthJ
import Derived.Test.YteiaojapolpjaaaDoorEthF
import Derived.Deep.RegionHeld3
namespace Go.Proofs.YteiaojapolpjaaaDoor
open Go.RowKit Go.WB

set_option maxHeartbeats 1000000 in
set_option maxRecDepth 100000 in
theorem texts_long (a b c d e f : Nat) (s : ByteArray) (w : World) (hs : 100 < s.size) (hE : Env w) : Calls Tryd.prog 3 #[.agg #[.int .u8 a, .int .u8 b, .int .u8 c, .int .u8 d, .int .u8 e, .int .u8 f], .string s] w fun e w' => e = .returned (.bool true) ∧ Below w.heap.size w w' := by
  have bs : (100 : Int) < (s.size : Int) := by omega
  go_enter Tryd.func3, Tryd.ntmps3
  go_wp2_with fail
  have B0 : Below w.heap.size w (w.alloc (.cells #[.int .u8 a, .int .u8 b, .int .u8 c, .int .u8 d, .int .u8 e, .int .u8 f] 22)) := (Below.refl _ _).alloc (Nat.le_refl _) _
  refine (known_any _ (hE.below B0)).mono ?_
  rintro e w1 ⟨rfl, b1⟩
  have B1 := B0.trans (b1.mono B0.size)
  clear B0 b1
  go_wp2_with fail
  go_ret
  exact ⟨rfl, B1⟩

/-- What the law's last region keeps. -/
def St (w0 : World) (x y z : Nat) (a b c d e f : Nat) (A B C D E F : Int) (W : World) : Prop :=
  Blk W x 22 #[.int .u8 a, .int .u8 b, .int .u8 c, .int .u8 d, .int .u8 e, .int .u8 f] ∧ Blk W y 22 #[.int .u8 A, .int .u8 B, .int .u8 C, .int .u8 D, .int .u8 E, .int .u8 F] ∧ Blk W z 22 #[.int .u8 A, .int .u8 B, .int .u8 C, .int .u8 D, .int .u8 E, .int .u8 F] ∧ Below w0.heap.size w0 W
section
variable {w0 W W' : World} {x y z a b c d e f : Nat} {A B C D E F : Int}
theorem St.bel (h : St w0 x y z a b c d e f A B C D E F W) : Below w0.heap.size w0 W := h.2.2.2
theorem St.step (h : St w0 x y z a b c d e f A B C D E F W) (hb : Below W.heap.size W W') : St w0 x y z a b c d e f A B C D E F W' :=
  ⟨h.1.below hb h.1.lt, h.2.1.below hb h.2.1.lt, h.2.2.1.below hb h.2.2.1.lt, h.2.2.2.trans (hb.mono h.2.2.2.size)⟩
theorem St.drew (h : St w0 x y z a b c d e f A B C D E F W) : St w0 x y z a b c d e f A B C D E F W.drew :=
  ⟨h.1, h.2.1, h.2.2.1, below_drewN h.2.2.2 1⟩
def StAll (w0 : World) (x y z : Nat) (a b c d e f : Nat) (A B C D E F : Int) (W : World) : Prop := St w0 x y z a b c d e f A B C D E F W ∧
  (W.cell? ⟨x, 0, none⟩ = some (.int .u8 a) ∧ W.cell? ⟨x, 1, none⟩ = some (.int .u8 b) ∧ W.cell? ⟨x, 2, none⟩ = some (.int .u8 c) ∧ W.cell? ⟨x, 3, none⟩ = some (.int .u8 d) ∧ W.cell? ⟨x, 4, none⟩ = some (.int .u8 e) ∧ W.cell? ⟨x, 5, none⟩ = some (.int .u8 f)) ∧
  (W.cell? ⟨y, 0, none⟩ = some (.int .u8 A) ∧ W.cell? ⟨y, 1, none⟩ = some (.int .u8 B) ∧ W.cell? ⟨y, 2, none⟩ = some (.int .u8 C) ∧ W.cell? ⟨y, 3, none⟩ = some (.int .u8 D) ∧ W.cell? ⟨y, 4, none⟩ = some (.int .u8 E) ∧ W.cell? ⟨y, 5, none⟩ = some (.int .u8 F)) ∧
  (W.cell? ⟨z, 0, none⟩ = some (.int .u8 A) ∧ W.cell? ⟨z, 1, none⟩ = some (.int .u8 B) ∧ W.cell? ⟨z, 2, none⟩ = some (.int .u8 C) ∧ W.cell? ⟨z, 3, none⟩ = some (.int .u8 D) ∧ W.cell? ⟨z, 4, none⟩ = some (.int .u8 E) ∧ W.cell? ⟨z, 5, none⟩ = some (.int .u8 F))
theorem St.all (h : St w0 x y z a b c d e f A B C D E F W) : StAll w0 x y z a b c d e f A B C D E F W :=
  ⟨h, ⟨h.1.cell 0, h.1.cell 1, h.1.cell 2, h.1.cell 3, h.1.cell 4, h.1.cell 5⟩, ⟨h.2.1.cell 0, h.2.1.cell 1, h.2.1.cell 2, h.2.1.cell 3, h.2.1.cell 4, h.2.1.cell 5⟩, ⟨h.2.2.1.cell 0, h.2.2.1.cell 1, h.2.2.1.cell 2, h.2.2.1.cell 3, h.2.2.1.cell 4, h.2.2.1.cell 5⟩⟩
theorem StAll.out (h : StAll w0 x y z a b c d e f A B C D E F W) : St w0 x y z a b c d e f A B C D E F W := h.1
end
theorem pr_any (x : Option Six) : ∃ (a b c d e f k : Int), pr x = .tuple #[.agg #[.int .u8 a, .int .u8 b, .int .u8 c, .int .u8 d, .int .u8 e, .int .u8 f], .int .i64 k] := by
  match x with
  | some x => exact ⟨_, _, _, _, _, _, _, rfl⟩
  | none => exact ⟨_, _, _, _, _, _, _, rfl⟩
set_option maxHeartbeats 1000000 in
set_option maxRecDepth 100000 in
theorem texts_short (a b c d e f : Nat) (s : ByteArray) (w : World) (hs : s.size ≤ 100) (hE : Env w) (h0 : a < 256) (h1 : b < 256) (h2 : c < 256) (h3 : d < 256) (h4 : e < 256) (h5 : f < 256) :
    Calls Tryd.prog 3 #[.agg #[.int .u8 a, .int .u8 b, .int .u8 c, .int .u8 d, .int .u8 e, .int .u8 f], .string s] w fun e w' => e = .returned (.bool true) ∧ Below w.heap.size w w' := by
  have bs : (s.size : Int) ≤ 100 := by omega
  obtain ⟨x, hx⟩ := pv_any s
  obtain ⟨A, B, C, D, E, F, k, hp⟩ := pr_any x
  go_enter Tryd.func3, Tryd.ntmps3
  go_wp2_with fail
  have B0 : Below w.heap.size w (w.alloc (.cells #[.int .u8 a, .int .u8 b, .int .u8 c, .int .u8 d, .int .u8 e, .int .u8 f] 22)) := (Below.refl _ _).alloc (Nat.le_refl _) _
  have X0 : Blk (w.alloc (.cells #[.int .u8 a, .int .u8 b, .int .u8 c, .int .u8 d, .int .u8 e, .int .u8 f] 22)) w.heap.size 22 #[.int .u8 a, .int .u8 b, .int .u8 c, .int .u8 d, .int .u8 e, .int .u8 f] := Blk.new _ _ _
  have E0 := hE.below B0
  generalize (w.alloc (.cells #[.int .u8 a, .int .u8 b, .int .u8 c, .int .u8 d, .int .u8 e, .int .u8 f] 22)) = W0 at *
  refine (parse_pv s x _ hx (by omega) E0).mono ?_
  rintro e1 W1 ⟨he, b1⟩
  rw [hp] at he
  subst he
  have B1 := B0.trans (b1.mono B0.size)
  have X1 := X0.below b1 X0.lt
  clear B0 X0 E0 b1
  go_wp2_with fail
  have B2 := B1.alloc (B1.size) (.cells #[.int .u8 A, .int .u8 B, .int .u8 C, .int .u8 D, .int .u8 E, .int .u8 F] 22)
  have X2 := X1.alloc (.cells #[.int .u8 A, .int .u8 B, .int .u8 C, .int .u8 D, .int .u8 E, .int .u8 F] 22)
  have Y2 : Blk (W1.alloc (.cells #[.int .u8 A, .int .u8 B, .int .u8 C, .int .u8 D, .int .u8 E, .int .u8 F] 22)) W1.heap.size 22 #[.int .u8 A, .int .u8 B, .int .u8 C, .int .u8 D, .int .u8 E, .int .u8 F] := Blk.new _ _ _
  generalize (W1.alloc (.cells #[.int .u8 A, .int .u8 B, .int .u8 C, .int .u8 D, .int .u8 E, .int .u8 F] 22)) = W2 at *
  generalize W1.heap.size = N1 at *
  clear B1 X1
  refine (rparse_pv s x _ hx).mono ?_
  rintro e1 W3 ⟨he, b1⟩
  rw [hp] at he
  subst he
  have B3 := B2.trans (b1.mono B2.size)
  have X3 := X2.below b1 X2.lt
  have Y3 := Y2.below b1 Y2.lt
  clear B2 X2 Y2 b1 hx hp
  have B4 := B3.alloc (B3.size) (.cells #[.int .u8 A, .int .u8 B, .int .u8 C, .int .u8 D, .int .u8 E, .int .u8 F] 22)
  have X4 := X3.alloc (.cells #[.int .u8 A, .int .u8 B, .int .u8 C, .int .u8 D, .int .u8 E, .int .u8 F] 22)
  have Y4 := Y3.alloc (.cells #[.int .u8 A, .int .u8 B, .int .u8 C, .int .u8 D, .int .u8 E, .int .u8 F] 22)
  have Z4 : Blk (W3.alloc (.cells #[.int .u8 A, .int .u8 B, .int .u8 C, .int .u8 D, .int .u8 E, .int .u8 F] 22)) W3.heap.size 22 #[.int .u8 A, .int .u8 B, .int .u8 C, .int .u8 D, .int .u8 E, .int .u8 F] := Blk.new _ _ _
  have S4 : St w w.heap.size N1 W3.heap.size a b c d e f A B C D E F (W3.alloc (.cells #[.int .u8 A, .int .u8 B, .int .u8 C, .int .u8 D, .int .u8 E, .int .u8 F] 22)) := ⟨X4, Y4, Z4, B4⟩
  clear B3 X3 Y3 X4 Y4 Z4 B4
  obtain ⟨T, hT⟩ : ∃ T, txt ⟨a, b, c, d, e, f⟩ = T := ⟨_, rfl⟩
  have hTT : (T.toList == T.toList) = true := by simp
  have heq := eq22 A B C D E F
  have hkk : (k == k) = true := by simp
  go_wp2_with fail
  generalize (W3.alloc (.cells #[.int .u8 A, .int .u8 B, .int .u8 C, .int .u8 D, .int .u8 E, .int .u8 F] 22)) = W4 at *
  generalize w.heap.size = N0 at *
  generalize W3.heap.size = N2 at *
  go_region_held3 (fun W => St w N0 N1 N2 a b c d e f A B C D E F W ∧
  (W.cell? ⟨N0, 0, none⟩ = some (.int .u8 a) ∧ W.cell? ⟨N0, 1, none⟩ = some (.int .u8 b) ∧ W.cell? ⟨N0, 2, none⟩ = some (.int .u8 c) ∧ W.cell? ⟨N0, 3, none⟩ = some (.int .u8 d) ∧ W.cell? ⟨N0, 4, none⟩ = some (.int .u8 e) ∧ W.cell? ⟨N0, 5, none⟩ = some (.int .u8 f)) ∧
  (W.cell? ⟨N1, 0, none⟩ = some (.int .u8 A) ∧ W.cell? ⟨N1, 1, none⟩ = some (.int .u8 B) ∧ W.cell? ⟨N1, 2, none⟩ = some (.int .u8 C) ∧ W.cell? ⟨N1, 3, none⟩ = some (.int .u8 D) ∧ W.cell? ⟨N1, 4, none⟩ = some (.int .u8 E) ∧ W.cell? ⟨N1, 5, none⟩ = some (.int .u8 F)) ∧
  (W.cell? ⟨N2, 0, none⟩ = some (.int .u8 A) ∧ W.cell? ⟨N2, 1, none⟩ = some (.int .u8 B) ∧ W.cell? ⟨N2, 2, none⟩ = some (.int .u8 C) ∧ W.cell? ⟨N2, 3, none⟩ = some (.int .u8 D) ∧ W.cell? ⟨N2, 4, none⟩ = some (.int .u8 E) ∧ W.cell? ⟨N2, 5, none⟩ = some (.int .u8 F)))
    (first | (exact St.all (St.drew (by assumption))) | (exact St.all (by assumption)))
    (first
      | (go_at_call 9; refine (text_any _ _ _ _ _ _ _ ?_ h0 h1 h2 h3 h4 h5).mono ?_; (exact hE.below (St.bel (StAll.out (by assumption)))); rintro en w' ⟨he, hb⟩; rw [hT] at he; subst he; have hS' := St.step (StAll.out (by assumption)) hb; clear hb)
      | (go_at_call 10; refine (rtext_any _ _ _ _ _ _ _ h0 h1 h2 h3 h4 h5).mono ?_; rintro en w' ⟨he, hb⟩; rw [hT] at he; subst he; have hS' := St.step (StAll.out (by assumption)) hb; clear hb)
      | (go_at_call 6; refine (known_any _ ?_).mono ?_; (exact hE.below (St.bel (StAll.out (by assumption)))); rintro en w' ⟨rfl, hb⟩; have hS' := St.step (StAll.out (by assumption)) hb; clear hb))
  all_goals
    go_wp2_with fail
    go_ret
    exact ⟨rfl, St.bel (by assumption)⟩
end Go.Proofs.YteiaojapolpjaaaDoor
