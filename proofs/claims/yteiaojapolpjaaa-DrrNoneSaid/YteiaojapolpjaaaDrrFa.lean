/- DrrNone, part 6: Serve, walked: b's turn, not begun. -/
import Derived.Test.YteiaojapolpjaaaDrrE
namespace Go.Proofs.Yteiaojapolpjaaa
open Go.RowKit Go.WB
attribute [local go_sem ↓] Go.wp_at_zero Go.wp_at_succ

set_option maxHeartbeats 4000000 in
set_option maxRecDepth 100000 in
theorem serve_fresh1 (B r h lb : Nat) (d0 d1 : Int) (w : World) (hB : B ≤ w.heap.size) (hr : Rnd B w r 2 kab q2 (d2 d0 d1) 1 false) (hh : HeadAt w h lb) (hd : 600 ≤ d1 + 1600) (hd2 : d1 ≤ 100000) :
    Calls Try.prog 6 #[.pointer (some ⟨r, 0, none⟩), .func (Fn.func 31) #[] #[.pointer (some ⟨h, 0, none⟩)]] w (ServePost B r ⟨#[98]⟩ d0 (d1 + 1600 - 600) 1 w) := by
  obtain ⟨ka, kc, qa, qc, da, dc, hBr, hb, ok, oq, od, hqd⟩ := hr
  obtain ⟨g1, u1, rfl, hB1, hk1, hk2, hk, hk3⟩ := own_two ok
  obtain ⟨g2, u2, rfl, hB2, hq1, hq2, hq, hq3⟩ := own_two oq
  obtain ⟨g3, u3, rfl, hB3, hd3, hd4, hdd, hd5⟩ := own_two od
  have hg23 : g2 ≠ g3 := fun h => hqd g2 rfl (by rw [h]; rfl)
  have lq := hq.lt
  have ld := hdd.lt
  have lr := hb.lt
  have hne : g3 ≠ w.heap.size + 1 ∧ g2 ≠ w.heap.size + 1 := ⟨by omega, by omega⟩
  have c0 := hb.cell 0
  have c4 := hb.cell 4
  simp only [List.getElem?_toArray, List.getElem?_cons_zero, List.getElem?_cons_succ] at c0 c4
  have hmk : ∀ W : World, (Instr.makeSlice 23 (.int .i64 2) (.int .i64 2)).run Try.prog W = .ok (.slice (some ⟨W.heap.size, 0, none⟩) 2 2) (W.alloc (.cells #[.int .i64 0, .int .i64 0] 3)) := fun _ => by kernel_rfl
  have hen : ∀ (W : World), (binOp BinOp.eql 30 (Value.func (Fn.func 31) #[] #[.pointer (some ⟨h, 0, none⟩)]) Value.nilFunc).run Try.prog W = .ok (.bool false) W := fun _ => by kernel_rfl
  go_enter Try.func6, Try.ntmps6
  go_wp2_with fail
  go_step3
  have c4' : (w.alloc (.cells #[.func (Fn.func 31) #[] #[.pointer (some ⟨h, 0, none⟩)]] 30)).cell? ⟨r, 4, none⟩ = some (.bool true) := (World.cell?_alloc_lt w _ ⟨r, 4, none⟩ lr).trans c4
  go_wp2_with (first | (go_at_call 28; refine (none_at _ true _ c4').mono ?_; rintro e w' ⟨rfl, rfl⟩))
  have bl : Below B w ((w.alloc (.cells #[.func (Fn.func 31) #[] #[.pointer (some ⟨h, 0, none⟩)]] 30)).alloc (.cells #[.int .i64 0, .int .i64 0] 3)) := ((Below.refl _ _).alloc hB _).alloc (by simp; omega) _
  have s : SAt ((w.alloc (.cells #[.func (Fn.func 31) #[] #[.pointer (some ⟨h, 0, none⟩)]] 30)).alloc (.cells #[.int .i64 0, .int .i64 0] 3)) w.heap.size r g1 g2 g3 h lb kc qc dc u1 u2 u3 d0 d1 1 false 0 0 :=
    ⟨(Blk.new _ _ _).alloc _, Blk.newAt _ _ _ (by simp), (hb.alloc _).alloc _, (hk.alloc _).alloc _, (hq.alloc _).alloc _, (hdd.alloc _).alloc _, ⟨(hh.h.alloc _).alloc _, (hh.l.alloc _).alloc _⟩⟩
  clear hmk hen c4' c0 c4 hb hk hq hdd hh ok oq od hqd
  generalize ((w.alloc (.cells #[.func (Fn.func 31) #[] #[.pointer (some ⟨h, 0, none⟩)]] 30)).alloc (.cells #[.int .i64 0, .int .i64 0] 3)) = W at *
  have hBN : B ≤ w.heap.size + 1 := by omega
  refine wp_loop_rounds 3 ?_
  rw [rounds_succ]
  obtain ⟨-, -, -, -, -, k0, -, -, -, -, -, -, -, -, -, -, -, -⟩ := s.cells
  go_wp2_with fail
  refine (cost_two _ 1000 _ _ _ _ (.inl ⟨rfl, rfl⟩) s.sb s.hh.h s.hh.l).mono ?_
  rintro e W1 ⟨rfl, hb1⟩
  have bl1 := bl.trans (hb1.mono (by have := s.cb.lt; omega : B ≤ W.heap.size))
  have s1 := s.below hb1
  clear s hb1 bl k0
  obtain ⟨-, -, -, -, -, -, -, -, -, -, -, x0, -, -, -, -, fx0, -⟩ := s1.cells
  go_wp2_with fail
  have bl2 := bl1.setCell (p := ⟨w.heap.size + 1, 0, none⟩) hBN (.int .i64 1000)
  have s2 := s1.cost0 1000 hne
  clear s1 bl1 x0 fx0
  generalize (W1.setCell ⟨w.heap.size + 1, 0, none⟩ (.int .i64 1000)) = W2 at *
  rw [rounds_succ]
  obtain ⟨-, -, -, -, -, -, k1, -, -, -, -, -, -, -, -, -, -, -⟩ := s2.cells
  go_wp2_with fail
  refine (cost_two _ 600 _ _ _ _ (.inr ⟨rfl, rfl⟩) s2.sb s2.hh.h s2.hh.l).mono ?_
  rintro e W3 ⟨rfl, hb3⟩
  have bl3 := bl2.trans (hb3.mono (by have := s2.cb.lt; omega : B ≤ W2.heap.size))
  have s3 := s2.below hb3
  clear s2 hb3 bl2 k1
  obtain ⟨-, -, -, -, -, -, -, -, -, -, -, -, x1, -, -, -, -, fx1⟩ := s3.cells
  go_wp2_with fail
  have bl4 := bl3.setCell (p := ⟨w.heap.size + 1, 1, none⟩) hBN (.int .i64 600)
  have s4 := s3.cost1 600 hne
  clear s3 bl3 x1 fx1
  generalize (W3.setCell ⟨w.heap.size + 1, 1, none⟩ (.int .i64 600)) = W4 at *
  rw [rounds_succ]
  obtain ⟨r0, r1, r2, r3, r5, k0, k1, q0, q1, e0, e1, x0, x1, f5, fd0, fd1, -, -⟩ := s4.cells
  go_wp2_with fail
  have n1 : ¬ g3 = r := s4.db.ne_ s4.rb (by decide)
  have n2 : ¬ r = g3 := fun h => n1 h.symm
  have n3 : ¬ g3 = w.heap.size + 1 := hne.1
  have n4 : ¬ w.heap.size + 1 = g3 := fun h => n3 h.symm
  have n5 : ¬ g1 = g3 := s4.kb.ne_ s4.db (by decide)
  have n6 : ¬ g1 = r := s4.kb.ne_ s4.rb (by decide)
  have n7 : ¬ w.heap.size + 1 = r := s4.cb.ne_ s4.rb (by decide)
  have S4 := Lib.hid s4
  have BL4 := Lib.hid bl4
  have HG := Lib.hid hg23
  clear lq ld lr hne hBN s4 bl4 hg23
  go_step3
  go_wp2_with fail
  refine wp_loop_rounds 3 ?_
  rw [rounds_succ]
  have hd1 : -1000 ≤ d1 := by omega
  go_wp2_with fail
  go_region
  go_wp2_with fail
  go_quiet (fail)
  go_wp2_with fail
  go_region
  go_wp2_with fail
  rw [Exit.noGoto_ret]
  go_ret2
  go_light
  refine ⟨rfl, ?_, ?_⟩
  · exact (below_drewN ((BL4.out.setCell (p := ⟨g3, 1, none⟩) hB3 _).setCell (p := ⟨r, 5, none⟩) hBr _) _).setCell (p := ⟨g3, 1, none⟩) hB3 _
  · exact (((((S4.out.dep n3 HG.out).2 (d1 + 1600)).beg.drewN _).dep n3 HG.out).2 (d1 + 1600 - 600)).rnd hBr hB1 hB2 hB3 hk1 hk2 hk3 hq1 hq2 hq3 hd3 hd4 hd5 HG.out
end Go.Proofs.Yteiaojapolpjaaa
