/- DrrNone, part 8: the page's example; a round without keys. -/
import Derived.Test.YteiaojapolpjaaaDrrG
import Derived.Test.YteiaojapolpjaaaDrrFa
import Derived.Test.YteiaojapolpjaaaDrrFb
import Derived.Test.YteiaojapolpjaaaDrrFc
import Derived.Test.YteiaojapolpjaaaDrrFd
import Derived.Test.YteiaojapolpjaaaDrrC
import Derived.Test.YteiaojapolpjaaaDrrC0
namespace Go.Proofs.Yteiaojapolpjaaa
open Go.RowKit Go.WB
attribute [local go_sem ↓] Go.wp_at_zero Go.wp_at_succ

theorem oneCells_ints (l : List Int) : OneCells (l.map (Value.int .i64)) := by
  intro x hx
  obtain ⟨a, _, rfl⟩ := List.mem_map.1 hx
  rfl
theorem oneCells_strings (l : List ByteArray) : OneCells (l.map Value.string) := by
  intro x hx
  obtain ⟨a, _, rfl⟩ := List.mem_map.1 hx
  rfl

theorem rnd_new (B : Nat) (w : World) (hB : B ≤ w.heap.size) : Rnd B (w.alloc (.cells #[.slice none 0 0, .slice none 0 0, .slice none 0 0, .int .i64 0, .bool true, .bool false] 25)) w.heap.size 0 [] [] [] 0 false :=
  ⟨none, 0, none, 0, none, 0, hB, Blk.new _ _ _, World.ownsRow_nil _ _ _ _, World.ownsRow_nil _ _ _ _, World.ownsRow_nil _ _ _ _, by simp [Value.ownBlock]⟩

theorem headAt_new (W : World) : HeadAt ((W.alloc (.cells #[.string ⟨#[97]⟩, .int .i64 1000, .string ⟨#[98]⟩, .int .i64 600] 33)).alloc (.cells #[.slice (some ⟨W.heap.size, 0, none⟩) 2 2] 34)) (W.heap.size + 1) W.heap.size :=
  ⟨Blk.newAt _ _ _ (by simp), (Blk.new _ _ _).alloc _⟩
theorem rnd_below {B r n : Nat} {K Q D : List Value} {t : Int} {bg : Bool} {w w' : World} (h : Rnd B w r n K Q D t bg) (hb : Below w.heap.size w w') : Rnd B w' r n K Q D t bg := by
  obtain ⟨ka, kc, qa, qc, da, dc, hB, hr, ok, oq, od, hqd⟩ := h
  have hm : Mods (fun _ => False) w w' := Mods.of_below hb
  exact ⟨ka, kc, qa, qc, da, dc, hB, hr.below hb hr.lt, own_mods ok hm (fun _ _ h => h), own_mods oq hm (fun _ _ h => h), own_mods od hm (fun _ _ h => h), hqd⟩
theorem rnd_head {B r n : Nat} {K Q D : List Value} {t : Int} {bg : Bool} {w v : World} {o1 o2 : Obj} (h : Rnd B w r n K Q D t bg) (hv : v = (w.alloc o1).alloc o2) : Rnd B v r n K Q D t bg := by
  rw [hv]
  exact rnd_below h (((Below.refl _ _).alloc (Nat.le_refl _) _).alloc (by simp) _)
theorem below_head {B : Nat} {a w v : World} {o1 o2 : Obj} (h : Below B a w) (hB : B ≤ w.heap.size) (hv : v = (w.alloc o1).alloc o2) : Below B a v := by
  rw [hv]
  exact (h.alloc hB _).alloc (by simp; omega) _

set_option maxHeartbeats 2000000 in
set_option maxRecDepth 100000 in
theorem known_yes (w : World) : Calls Try.prog 16 #[] w fun e w' => e = .returned (.bool true) ∧ Below w.heap.size w w' := by
  obtain ⟨B, hB⟩ : ∃ B, B = w.heap.size := ⟨_, rfl⟩
  rw [← hB]
  have HB := Lib.hid hB
  clear hB
  go_enter Try.func16, Try.ntmps16
  go_wp2_with fail
  refine (new_any _).mono ?_
  rintro e w1 ⟨rfl, hw1⟩
  have h1 : Rnd B w1 w.heap.size 0 [] [] [] 0 false := by rw [hw1]; exact rnd_new B w (Nat.le_of_eq HB.out)
  have b1 : Below B w w1 := by rw [hw1]; exact (Below.refl _ _).alloc (Nat.le_of_eq HB.out) _
  clear hw1
  obtain ⟨r, hr⟩ : ∃ r, w.heap.size = r := ⟨_, rfl⟩
  rw [hr] at h1 ⊢
  clear hr
  go_wp2_with fail
  refine (add_first B r 0 0 [] [] [] ⟨#[98]⟩ 1600 0 false _ h1 (finds_none B _) (by omega) (by omega) (Nat.le_refl _) rfl (by omega) (by omega) (oneCells_strings []) (oneCells_ints []) (oneCells_ints [])).mono ?_
  rintro e w2 ⟨rfl, b2, h2⟩
  go_wp2_with fail
  refine (add_more B r 1 0 _ _ _ ⟨#[97]⟩ 1600 0 false _ h2 (finds_b B) (by omega) (by omega) (by omega) (by omega) (by omega) (by omega) (by omega) (oneCells_strings [⟨#[98]⟩]) (oneCells_ints [1600]) (oneCells_ints [0])).mono ?_
  rintro e w3 ⟨rfl, b3, h3⟩
  go_wp2_with fail
  refine (add_twice B r 2 0 _ _ _ ⟨#[97]⟩ 1600 1 false _ h3 (finds_ab B) (by omega) (by omega)).mono ?_
  rintro e w4 ⟨rfl, b4, h4⟩
  have b5 := ((b1.trans b2).trans b3).trans b4
  have s0 : Rnd B w4 r 2 kab q2 (d2 0 0) 1 false := h4
  have h0 : B ≤ w4.heap.size := by have := b5.size; have := HB.out; omega
  clear h1 h2 h3 h4 b1 b2 b3 b4
  go_wp2_with fail
  clear HB
  refine wp_loop_rounds 6 ?_
  rw [rounds_succ]
  go_wp2_with fail
  refine (head_any _ _ _ _).mono ?_
  rintro e v0 ⟨rfl, hv0⟩
  have H0 : HeadAt v0 (w4.heap.size + 1) w4.heap.size := by rw [hv0]; exact headAt_new w4
  have R0 := rnd_head s0 hv0
  have L0 := below_head b5 h0 hv0
  have Z0 : B ≤ v0.heap.size := by rw [hv0]; simp; omega
  have hs0 : (w4.alloc (.cells #[.string ⟨#[97]⟩, .int .i64 1000, .string ⟨#[98]⟩, .int .i64 600] 33)).heap.size = w4.heap.size + 1 := by simp
  rw [hs0]
  clear hv0 hs0 s0 b5 h0
  go_wp2_with fail
  refine (serve_fresh1 B r _ _ 0 0 _ Z0 R0 H0 (by omega) (by omega)).mono ?_
  rintro e x0 ⟨rfl, m0, qq0⟩
  have p0 : Rnd B x0 r 2 kab q2 (d2 0 1000) 1 true := qq0
  have c0 := L0.trans m0
  have y0 : B ≤ x0.heap.size := by have := m0.size; omega
  clear H0 R0 L0 Z0 m0 qq0
  go_wp2_with fail
  rw [rounds_succ]
  go_wp2_with fail
  refine (head_any _ _ _ _).mono ?_
  rintro e v1 ⟨rfl, hv1⟩
  have H1 : HeadAt v1 (x0.heap.size + 1) x0.heap.size := by rw [hv1]; exact headAt_new x0
  have R1 := rnd_head p0 hv1
  have L1 := below_head c0 y0 hv1
  have Z1 : B ≤ v1.heap.size := by rw [hv1]; simp; omega
  have hs1 : (x0.alloc (.cells #[.string ⟨#[97]⟩, .int .i64 1000, .string ⟨#[98]⟩, .int .i64 600] 33)).heap.size = x0.heap.size + 1 := by simp
  rw [hs1]
  clear hv1 hs1 p0 c0 y0
  go_wp2_with fail
  refine (serve_hit1 B r _ _ 0 1000 _ Z1 R1 H1 (by omega) (by omega)).mono ?_
  rintro e x1 ⟨rfl, m1, qq1⟩
  have p1 : Rnd B x1 r 2 kab q2 (d2 0 400) 1 true := qq1
  have c1 := L1.trans m1
  have y1 : B ≤ x1.heap.size := by have := m1.size; omega
  clear H1 R1 L1 Z1 m1 qq1
  go_wp2_with fail
  rw [rounds_succ]
  go_wp2_with fail
  refine (head_any _ _ _ _).mono ?_
  rintro e v2 ⟨rfl, hv2⟩
  have H2 : HeadAt v2 (x1.heap.size + 1) x1.heap.size := by rw [hv2]; exact headAt_new x1
  have R2 := rnd_head p1 hv2
  have L2 := below_head c1 y1 hv2
  have Z2 : B ≤ v2.heap.size := by rw [hv2]; simp; omega
  have hs2 : (x1.alloc (.cells #[.string ⟨#[97]⟩, .int .i64 1000, .string ⟨#[98]⟩, .int .i64 600] 33)).heap.size = x1.heap.size + 1 := by simp
  rw [hs2]
  clear hv2 hs2 p1 c1 y1
  go_wp2_with fail
  refine (serve_miss1 B r _ _ 0 400 _ Z2 R2 H2 (by omega) (by omega) (by omega) (by omega)).mono ?_
  rintro e x2 ⟨rfl, m2, qq2⟩
  have p2 : Rnd B x2 r 2 kab q2 (d2 600 400) 0 true := qq2
  have c2 := L2.trans m2
  have y2 : B ≤ x2.heap.size := by have := m2.size; omega
  clear H2 R2 L2 Z2 m2 qq2
  go_wp2_with fail
  rw [rounds_succ]
  go_wp2_with fail
  refine (head_any _ _ _ _).mono ?_
  rintro e v3 ⟨rfl, hv3⟩
  have H3 : HeadAt v3 (x2.heap.size + 1) x2.heap.size := by rw [hv3]; exact headAt_new x2
  have R3 := rnd_head p2 hv3
  have L3 := below_head c2 y2 hv3
  have Z3 : B ≤ v3.heap.size := by rw [hv3]; simp; omega
  have hs3 : (x2.alloc (.cells #[.string ⟨#[97]⟩, .int .i64 1000, .string ⟨#[98]⟩, .int .i64 600] 33)).heap.size = x2.heap.size + 1 := by simp
  rw [hs3]
  clear hv3 hs3 p2 c2 y2
  go_wp2_with fail
  refine (serve_miss0 B r _ _ 600 400 _ Z3 R3 H3 (by omega) (by omega) (by omega) (by omega)).mono ?_
  rintro e x3 ⟨rfl, m3, qq3⟩
  have p3 : Rnd B x3 r 2 kab q2 (d2 600 1400) 1 true := qq3
  have c3 := L3.trans m3
  have y3 : B ≤ x3.heap.size := by have := m3.size; omega
  clear H3 R3 L3 Z3 m3 qq3
  go_wp2_with fail
  rw [rounds_succ]
  go_wp2_with fail
  refine (head_any _ _ _ _).mono ?_
  rintro e v4 ⟨rfl, hv4⟩
  have H4 : HeadAt v4 (x3.heap.size + 1) x3.heap.size := by rw [hv4]; exact headAt_new x3
  have R4 := rnd_head p3 hv4
  have L4 := below_head c3 y3 hv4
  have Z4 : B ≤ v4.heap.size := by rw [hv4]; simp; omega
  have hs4 : (x3.alloc (.cells #[.string ⟨#[97]⟩, .int .i64 1000, .string ⟨#[98]⟩, .int .i64 600] 33)).heap.size = x3.heap.size + 1 := by simp
  rw [hs4]
  clear hv4 hs4 p3 c3 y3
  go_wp2_with fail
  refine (serve_hit1 B r _ _ 600 1400 _ Z4 R4 H4 (by omega) (by omega)).mono ?_
  rintro e x4 ⟨rfl, m4, qq4⟩
  have p4 : Rnd B x4 r 2 kab q2 (d2 600 800) 1 true := qq4
  have c4 := L4.trans m4
  have y4 : B ≤ x4.heap.size := by have := m4.size; omega
  clear H4 R4 L4 Z4 m4 qq4
  go_wp2_with fail
  rw [rounds_succ]
  go_wp2_with fail
  go_ret
  exact ⟨congrArg (fun b : Bool => Ending.returned (Value.bool b)) (show (((⟨#[]⟩ ++ ⟨#[98]⟩ ++ ⟨#[98]⟩ ++ ⟨#[97]⟩ ++ ⟨#[98]⟩ ++ ⟨#[98]⟩ : ByteArray)).toList == [98, 98, 97, 98, 98]) = true from by decide +kernel), c4⟩

/-- Serve of a round that was made, without a head: nobody. -/
theorem serve_nil (p : Value) (b : Nat) (w : World) (hp : p = .pointer (some ⟨b, 0, none⟩)) (hc : w.cell? ⟨b, 4, none⟩ = some (.bool true)) : Calls Try.prog 6 #[p, .nilFunc] w fun e w' => e = .returned (.tuple #[.string ⟨#[]⟩, .bool false]) ∧ Below w.heap.size w w' := by
  subst hp
  have hlt : b < w.heap.size := World.block_lt_of_cell? w _ hc
  have h1 : (w.alloc (.cells #[.nilFunc] 30)).cell? ⟨b, 4, none⟩ = some (.bool true) := (World.cell?_alloc_lt w _ ⟨b, 4, none⟩ hlt).trans hc
  have hen : ∀ (W : World), (binOp BinOp.eql 30 Value.nilFunc Value.nilFunc).run Try.prog W = .ok (.bool true) W := fun _ => by kernel_rfl
  go_enter Try.func6, Try.ntmps6
  go_wp2_with fail
  go_step3
  go_wp2_with (first | (go_at_call 28; refine (none_at _ true _ h1).mono ?_; rintro e w' ⟨rfl, rfl⟩))
  rw [Exit.noGoto_ret]
  go_ret2
  exact ⟨rfl, (Below.refl _ _).alloc (Nat.le_refl _) _⟩

end Go.Proofs.Yteiaojapolpjaaa
