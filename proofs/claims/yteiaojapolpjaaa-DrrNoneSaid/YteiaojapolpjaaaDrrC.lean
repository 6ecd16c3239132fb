/- DrrNone, part 3: Add, walked. -/
import Derived.Test.YteiaojapolpjaaaDrrBb
import Derived.Test.YteiaojapolpjaaaWt
namespace Go.Proofs.Yteiaojapolpjaaa
open Go.RowKit Go.WB
attribute [local go_sem ↓] Go.wp_at_zero Go.wp_at_succ


set_option maxHeartbeats 4000000 in
set_option maxRecDepth 100000 in
theorem add_more (B r n i : Nat) (K Q D : List Value) (k : ByteArray) (q0 t : Int) (bg : Bool) (w : World) (h : Rnd B w r n K Q D t bg) (hf : Finds B n K k i false) (hq0 : 1600 ≤ q0) (hq1 : q0 ≤ 65536) (hin : i ≤ n) (hn0 : 0 < n) (hn : n < 64) (hit : (i : Int) ≤ t) (ht : t < 1000)
    (o1 : OneCells K) (o2 : OneCells Q) (o3 : OneCells D) :
    Calls Try.prog 9 #[.pointer (some ⟨r, 0, none⟩), .string k, .int .i64 q0] w (AddPost B r n K Q D i k q0 (t + 1) bg w) := by
    obtain ⟨ka, kc, qa, qc, da, dc, hB, hr, ok, oq, od, hqd⟩ := h
    have HF := Lib.hid hf
    clear hf
    have hrl := hr.lt
    have c0 := hr.cell 0
    have c3 := hr.cell 3
    have c4 := hr.cell 4
    have f3 := hr.frozen 3
    simp only [List.getElem?_toArray, List.getElem?_cons_zero, List.getElem?_cons_succ] at c0 c3 c4
    have h64 : ((n : Int) == 64) = false := by rw [beq_eq_false_iff_ne]; omega
    have hn1 : (0 : Int) < (n : Int) := by omega
    go_enter Try.func9, Try.ntmps9
    go_wp2_with (first | (go_at_call 28; refine (none_at _ true _ c4).mono ?_; rintro e w' ⟨rfl, rfl⟩))
    refine (HF.out ka kc _ ok).mono ?_
    rintro e w' ⟨rfl, nq, hw⟩
    have bl0 : Below B w w' := by rw [hw]; exact below_drewN (Below.refl _ _) _
    have r0 : Blk w' r 25 #[.slice ka n kc, .slice qa n qc, .slice da n dc, .int .i64 t, .bool true, .bool bg] := by rw [hw]; exact hr.drewN _
    have ok0 : w'.ownsRow B 9 1 (.slice ka n kc) n K := by rw [hw]; exact ok
    have oq0 : w'.ownsRow B 3 1 (.slice qa n qc) n Q := by rw [hw]; exact oq
    have od0 : w'.ownsRow B 3 1 (.slice da n dc) n D := by rw [hw]; exact od
    clear hw hr ok oq od c0 c3 c4 f3
    have c0 := r0.cell 0
    have c3 := r0.cell 3
    have f3 := r0.frozen 3
    simp only [List.getElem?_toArray, List.getElem?_cons_zero, List.getElem?_cons_succ] at c0 c3
    go_wp2_with (first | (go_at_call 33; refine (may_yes _ (by omega) (by omega) _).mono ?_; rintro e w' ⟨rfl, rfl⟩))
    have mS := Mods.ofSet r 3 (.int .i64 (t + 1)) w'
    have r1 : Blk (w'.setCell ⟨r, 3, none⟩ (.int .i64 (t + 1))) r 25 #[.slice ka n kc, .slice qa n qc, .slice da n dc, .int .i64 (t + 1), .bool true, .bool bg] := by simpa using r0.set_ 3 _
    have ok1 := own_mods ok0 mS (fun g hg h => own_ne ok0 r0 (by decide) (by rw [hg, h]))
    have oq1 := own_mods oq0 mS (fun g hg h => own_ne oq0 r0 (by decide) (by rw [hg, h]))
    have od1 := own_mods od0 mS (fun g hg h => own_ne od0 r0 (by decide) (by rw [hg, h]))
    have bl1 : Below B w (w'.setCell ⟨r, 3, none⟩ (.int .i64 (t + 1))) := bl0.setCell hB _
    have hw1 : (w'.setCell ⟨r, 3, none⟩ (.int .i64 (t + 1))).heap.size = w'.heap.size := by simp [World.setCell]
    clear c0 c3 f3 mS ok0 oq0 od0 r0 bl0
    have hrW := r1.lt
    have bn : Blk ((w'.setCell ⟨r, 3, none⟩ (.int .i64 (t + 1))).alloc (.cells #[.string k] 9)) w'.heap.size 9 #[.string k] := Blk.newAt _ _ _ hw1
    refine (ins_string (vb := w'.heap.size) _ (own_mods ok1 ((Mods.refl (fun _ => False) _).alloc _) (fun _ _ h => h)) hin (by omega) rfl o1 bn (fun h => by have := (World.ownsRow.lt ok1 _ h).2; omega) (by simp; omega)).mono ?_
    rintro e w1 hins
    obtain ⟨g1, cap1, rfl, own1, m1, hb1, hB1, hg1⟩ := hins.at_
    have mA : Mods (fun _ => False) (w'.setCell ⟨r, 3, none⟩ (.int .i64 (t + 1))) ((w'.setCell ⟨r, 3, none⟩ (.int .i64 (t + 1))).alloc (.cells #[.string k] 9)) := (Mods.refl _ _).alloc _
    have hk1 := own_ne ok1 r1 (by decide)
    have r2 := (r1.mods mA (fun h => h)).mods m1 hk1
    have oq2 := own_mods (own_mods oq1 mA (fun _ _ h => h)) m1 (fun g hg h => own_ne2 ok1 oq1 (by decide) g h hg)
    have od2 := own_mods (own_mods od1 mA (fun _ _ h => h)) m1 (fun g hg h => own_ne2 ok1 od1 (by decide) g h hg)
    have bl2 : Below B w w1 := (bl1.trans (mA.toBelow (fun _ h => h.elim) (by omega))).trans (m1.toBelow (fun g hg => (World.ownsRow.lt ok1 g hg).1) (by simp; omega))
    clear mA m1 hk1 ok1 oq1 od1 r1 bl1 hb1 hins bn hw1
    have f0 := r2.frozen 0
    have c0 := r2.cell 0
    have c1 := r2.cell 1
    have c2 := r2.cell 2
    simp only [List.getElem?_toArray, List.getElem?_cons_zero, List.getElem?_cons_succ] at c0 c1 c2
    go_wp2_with fail
    have rW : Blk (w1.setCell ⟨r, 0, none⟩ (.slice (some ⟨g1, 0, none⟩) (n + 1) cap1)) r 25 #[.slice (some ⟨g1, 0, none⟩) (n + 1) cap1, .slice qa n qc, .slice da n dc, .int .i64 (t + 1), .bool true, .bool bg] := by simpa using r2.set_ 0 _
    have mW := Mods.ofSet r 0 (.slice (some ⟨g1, 0, none⟩) (n + 1) cap1) w1
    have ownW := own_mods own1 mW (fun g hg h => own_ne own1 r2 (by decide) (by rw [hg, h]))
    have oqW := own_mods oq2 mW (fun g hg h => own_ne oq2 r2 (by decide) (by rw [hg, h]))
    have odW := own_mods od2 mW (fun g hg h => own_ne od2 r2 (by decide) (by rw [hg, h]))
    have blW : Below B w (w1.setCell ⟨r, 0, none⟩ (.slice (some ⟨g1, 0, none⟩) (n + 1) cap1)) := bl2.setCell hB _
    clear mW own1 oq2 od2 r2 bl2 c0 c1 c2 f0
    generalize (w1.setCell ⟨r, 0, none⟩ (.slice (some ⟨g1, 0, none⟩) (n + 1) cap1)) = W at *
    have rcW : RC W r (.slice qa n qc) (.slice da n dc) := ⟨_, _, _, _, rW⟩
    have hqr := own_ne oqW rW (by decide)
    have hdr := own_ne odW rW (by decide)
    have hBW : B ≤ W.heap.size := by have := rW.lt; omega
    obtain ⟨cW1, cW2⟩ := rcW.cells
    clear HF hrl h64 hrW hB1 hg1 hn1
    refine wp_region_noPanic ?_
    refine wp_region_T (S := fun w' => w'.cell? ⟨r, 1, none⟩ = some (.slice qa n qc) ∧ w'.cell? ⟨r, 2, none⟩ = some (.slice da n dc)) [5, 8, 9, 13, 15, 16] (by kernel_rfl) ⟨cW1, cW2⟩ (fun hHeld => ?_)
    refine wpAnyT_take0 (i := 0) (v := ?_) rfl (by kernel_rfl) (by kernel_rfl) (by kernel_rfl) (by kernel_rfl) (fun _ _ _ h => h) (Or.inl ⟨by rfl, ?_⟩) ?_
    rotate_left
    · (intro w hSw; clear hSw; go_simp; try (with_reducible rfl))
    try simp only [Act.put, List.setIfInBounds_toArray, List.set_cons_zero, List.set_cons_succ]
    refine wpAnyT_take0 (i := 1) (v := ?_) rfl (by kernel_rfl) (by kernel_rfl) (by kernel_rfl) (by kernel_rfl) (fun _ _ _ h => h) (Or.inl ⟨by rfl, ?_⟩) ?_
    rotate_left
    · (intro w hSw; clear hSw; go_simp; try (with_reducible rfl))
    try simp only [Act.put, List.setIfInBounds_toArray, List.set_cons_zero, List.set_cons_succ]
    refine wpAnyT_take0 (i := 2) (v := ?_) rfl (by kernel_rfl) (by kernel_rfl) (by kernel_rfl) (by kernel_rfl) (fun _ _ _ h => h) (Or.inl ⟨by rfl, ?_⟩) ?_
    rotate_left
    · (intro w hSw; clear hSw; go_simp; try (with_reducible rfl))
    try simp only [Act.put, List.setIfInBounds_toArray, List.set_cons_zero, List.set_cons_succ]
    refine wpAnyT_take0 (i := 3) (v := ?_) rfl (by kernel_rfl) (by kernel_rfl) (by kernel_rfl) (by kernel_rfl) (fun _ _ _ h => h) (Or.inl ⟨by rfl, ?_⟩) ?_
    rotate_left
    · (intro w hSw; clear hSw; go_simp; try (with_reducible rfl))
    try simp only [Act.put, List.setIfInBounds_toArray, List.set_cons_zero, List.set_cons_succ]
    refine wpAnyT_take0 (i := 4) (v := ?_) rfl (by kernel_rfl) (by kernel_rfl) (by kernel_rfl) (by kernel_rfl) (fun _ _ _ h => h) (Or.inl ⟨by rfl, ?_⟩) ?_
    rotate_left
    · (intro w hSw; clear hSw; go_simp; try (with_reducible rfl))
    try simp only [Act.put, List.setIfInBounds_toArray, List.set_cons_zero, List.set_cons_succ]
    refine wpAnyT_take0 (i := 6) (v := ?_) rfl (by kernel_rfl) (by kernel_rfl) (by kernel_rfl) (by kernel_rfl) (fun _ _ _ h => h) (Or.inl ⟨by rfl, ?_⟩) ?_
    rotate_left
    · (intro w hSw; clear hSw; go_simp; try (with_reducible rfl))
    try simp only [Act.put, List.setIfInBounds_toArray, List.set_cons_zero, List.set_cons_succ]
    refine wpAnyT_take0 (i := 7) (v := ?_) rfl (by kernel_rfl) (by kernel_rfl) (by kernel_rfl) (by kernel_rfl) (fun _ _ _ h => h) (Or.inl ⟨by rfl, ?_⟩) ?_
    rotate_left
    · (intro w hSw; clear hSw; go_simp; try (with_reducible rfl))
    try simp only [Act.put, List.setIfInBounds_toArray, List.set_cons_zero, List.set_cons_succ]
    refine wpAnyT_take0 (i := 10) (v := ?_) rfl (by kernel_rfl) (by kernel_rfl) (by kernel_rfl) (by kernel_rfl) (fun _ _ _ h => h) (Or.inl ⟨by rfl, ?_⟩) ?_
    rotate_left
    · (intro w hSw; clear hSw; go_simp; try (with_reducible rfl))
    try simp only [Act.put, List.setIfInBounds_toArray, List.set_cons_zero, List.set_cons_succ]
    refine wpAnyT_take0 (i := 11) (v := ?_) rfl (by kernel_rfl) (by kernel_rfl) (by kernel_rfl) (by kernel_rfl) (fun _ _ _ h => h) (Or.inl ⟨by rfl, ?_⟩) ?_
    rotate_left
    · (intro w hSw; clear hSw; go_simp; try (with_reducible rfl))
    try simp only [Act.put, List.setIfInBounds_toArray, List.set_cons_zero, List.set_cons_succ]
    refine wpAnyT_take0 (i := 12) (v := ?_) rfl (by kernel_rfl) (by kernel_rfl) (by kernel_rfl) (by kernel_rfl) (fun _ _ _ h => h) (Or.inl ⟨by rfl, ?_⟩) ?_
    rotate_left
    · (intro w hSw; clear hSw; go_simp; try (with_reducible rfl))
    try simp only [Act.put, List.setIfInBounds_toArray, List.set_cons_zero, List.set_cons_succ]
    refine wpAnyT_take0 (i := 14) (v := ?_) rfl (by kernel_rfl) (by kernel_rfl) (by kernel_rfl) (by kernel_rfl) (fun _ _ _ h => h) (Or.inl ⟨by rfl, ?_⟩) ?_
    rotate_left
    · (intro w hSw; clear hSw; go_simp; try (with_reducible rfl))
    try simp only [Act.put, List.setIfInBounds_toArray, List.set_cons_zero, List.set_cons_succ]
    refine wpAnyT_take (i := 5) (v := ?_) rfl (by kernel_rfl) (by kernel_rfl) (by kernel_rfl) (by kernel_rfl) (fun _ _ _ h => h) (Or.inl ⟨by rfl, ?_⟩) hHeld ?_
    rotate_left
    · (intro w hSw; (try dsimp only at hSw); go_simp; try (with_reducible rfl))
    try simp only [Act.put, List.setIfInBounds_toArray, List.set_cons_zero, List.set_cons_succ]
    refine wpAnyT_take (i := 13) (v := ?_) rfl (by kernel_rfl) (by kernel_rfl) (by kernel_rfl) (by kernel_rfl) (fun _ _ _ h => h) (Or.inl ⟨by rfl, ?_⟩) hHeld ?_
    rotate_left
    · (intro w hSw; (try dsimp only at hSw); go_simp; try (with_reducible rfl))
    try simp only [Act.put, List.setIfInBounds_toArray, List.set_cons_zero, List.set_cons_succ]
    refine wpAnyT_ready (rs := [8, 15]) (by kernel_rfl) (by simp) ?_
    refine AllReadyT.cons rfl (fun K hK => ?_) ?_
    · go_simp
      refine hK.out _ _ (fun _ => (by refine RC.cells ?_; repeat (first | with_reducible assumption | with_reducible refine RC.drew ?_ | with_reducible refine RC.alloc ?_ _))) ?_
      clear hK K
      try simp only [Act.put, List.setIfInBounds_toArray, List.set_cons_zero, List.set_cons_succ]
      refine wpAnyT_ready (rs := [9, 15]) (by kernel_rfl) (by simp) ?_
      refine AllReadyT.cons rfl (fun K hK => ?_) ?_
      · go_simp
        (go_at_call 35; ((with_reducible refine (ins_int (base := B) (v := .slice qa n qc) (xs := Q) (u := .int .i64 q0) _ ?_ hin (by omega) rfl o2 ?_ ?_ ?_).mono ?_); (exact own_mods oqW (by (repeat (first | with_reducible exact Mods.refl _ _ | with_reducible refine Mods.alloc ?_ _ | with_reducible refine Mods.drew ?_))) (fun _ _ h => h)); (repeat (first | with_reducible refine Blk.drew ?_ | with_reducible exact Blk.newAt _ _ _ (by simp) | with_reducible refine Blk.alloc ?_ _)); (exact fun h => by have := (World.ownsRow.lt oqW _ h).2; omega); (simp; omega); rintro e w3 hins; obtain ⟨g3, cap3, rfl, own3, m3, h3, hB3, hg3⟩ := hins.at_; clear hins; obtain ⟨rc3, hM1⟩ := RC.step m3 rcW (by (repeat (first | with_reducible exact Mods.refl _ _ | with_reducible refine Mods.alloc ?_ _ | with_reducible refine Mods.drew ?_))) hqr))
        dsimp only
        refine hK.out _ _ (fun _ => (by refine RC.cells ?_; repeat (first | with_reducible assumption | with_reducible refine RC.drew ?_ | with_reducible refine RC.alloc ?_ _))) ?_
        clear hK K
        try simp only [Act.put, List.setIfInBounds_toArray, List.set_cons_zero, List.set_cons_succ]
        refine wpAnyT_ready (rs := [15]) (by kernel_rfl) (by simp) ?_
        refine AllReadyT.cons rfl (fun K hK => ?_) ?_
        · go_simp
          refine hK.out _ _ (fun _ => (by refine RC.cells ?_; repeat (first | with_reducible assumption | with_reducible refine RC.drew ?_ | with_reducible refine RC.alloc ?_ _))) ?_
          clear hK K
          try simp only [Act.put, List.setIfInBounds_toArray, List.set_cons_zero, List.set_cons_succ]
          refine wpAnyT_ready (rs := [16]) (by kernel_rfl) (by simp) ?_
          refine AllReadyT.cons rfl (fun K hK => ?_) ?_
          · go_simp
            (go_at_call 35; ((with_reducible refine (ins_int (base := B) (v := .slice da n dc) (xs := D) (u := .int .i64 0) _ ?_ hin (by omega) rfl o3 ?_ ?_ ?_).mono ?_); (exact own_mods (own_mods (own_mods odW hM1 (fun _ _ h => h)) m3 (fun g hg h => hqd g h hg)) (by (repeat (first | with_reducible exact Mods.refl _ _ | with_reducible refine Mods.alloc ?_ _ | with_reducible refine Mods.drew ?_))) (fun _ _ h => h)); (first | done | (repeat (first | with_reducible refine Blk.drew ?_ | with_reducible exact Blk.newAt _ _ _ (by simp) | with_reducible refine Blk.alloc ?_ _ | refine Blk.mods ?_ m3 (fun h => by have := (World.ownsRow.lt oqW _ h).2; omega)))); (exact fun h => by have := (World.ownsRow.lt odW _ h).2; have := hM1.size; have := m3.size; omega); (have := hM1.size; have := m3.size; simp; omega); rintro e w4 hins; obtain ⟨g4, cap4, rfl, own4, m4, h4, hB4, hg4⟩ := hins.at_; clear hins; obtain ⟨rc4, hM2⟩ := RC.step m4 rc3 (by (repeat (first | with_reducible exact Mods.refl _ _ | with_reducible refine Mods.alloc ?_ _ | with_reducible refine Mods.drew ?_))) hdr))
            dsimp only
            refine hK.out _ _ (fun _ => (by refine RC.cells ?_; repeat (first | with_reducible assumption | with_reducible refine RC.drew ?_ | with_reducible refine RC.alloc ?_ _))) ?_
            clear hK K
            try simp only [Act.put, List.setIfInBounds_toArray, List.set_cons_zero, List.set_cons_succ]
            refine wpAnyT_tail 17 rfl (by kernel_rfl) (by kernel_rfl) ?_
            simp only [List.drop_succ_cons, List.drop_zero]
            obtain ⟨fz1, fz2⟩ := rc4.fz
            obtain ⟨cz1, cz2⟩ := rc4.cells
            go_wp2_with fail
            refine NoPanic.normal ?_
            go_wp2_with fail
            go_ret
            exact ⟨rfl, add_close hB blW rW ownW oqW odW hqd hM1 own3 m3 h3 hg3 hM2 own4 m4 h4⟩
          exact AllReadyT.nil
        exact AllReadyT.nil
      refine AllReadyT.cons rfl (fun K hK => ?_) ?_
      · go_simp
        refine hK.out _ _ (fun _ => (by refine RC.cells ?_; repeat (first | with_reducible assumption | with_reducible refine RC.drew ?_ | with_reducible refine RC.alloc ?_ _))) ?_
        clear hK K
        try simp only [Act.put, List.setIfInBounds_toArray, List.set_cons_zero, List.set_cons_succ]
        refine wpAnyT_ready (rs := [9]) (by kernel_rfl) (by simp) ?_
        refine AllReadyT.cons rfl (fun K hK => ?_) ?_
        · go_simp
          (go_at_call 35; ((with_reducible refine (ins_int (base := B) (v := .slice qa n qc) (xs := Q) (u := .int .i64 q0) _ ?_ hin (by omega) rfl o2 ?_ ?_ ?_).mono ?_); (exact own_mods oqW (by (repeat (first | with_reducible exact Mods.refl _ _ | with_reducible refine Mods.alloc ?_ _ | with_reducible refine Mods.drew ?_))) (fun _ _ h => h)); (repeat (first | with_reducible refine Blk.drew ?_ | with_reducible exact Blk.newAt _ _ _ (by simp) | with_reducible refine Blk.alloc ?_ _)); (exact fun h => by have := (World.ownsRow.lt oqW _ h).2; omega); (simp; omega); rintro e w3 hins; obtain ⟨g3, cap3, rfl, own3, m3, h3, hB3, hg3⟩ := hins.at_; clear hins; obtain ⟨rc3, hM1⟩ := RC.step m3 rcW (by (repeat (first | with_reducible exact Mods.refl _ _ | with_reducible refine Mods.alloc ?_ _ | with_reducible refine Mods.drew ?_))) hqr))
          dsimp only
          refine hK.out _ _ (fun _ => (by refine RC.cells ?_; repeat (first | with_reducible assumption | with_reducible refine RC.drew ?_ | with_reducible refine RC.alloc ?_ _))) ?_
          clear hK K
          try simp only [Act.put, List.setIfInBounds_toArray, List.set_cons_zero, List.set_cons_succ]
          refine wpAnyT_ready (rs := [16]) (by kernel_rfl) (by simp) ?_
          refine AllReadyT.cons rfl (fun K hK => ?_) ?_
          · go_simp
            (go_at_call 35; ((with_reducible refine (ins_int (base := B) (v := .slice da n dc) (xs := D) (u := .int .i64 0) _ ?_ hin (by omega) rfl o3 ?_ ?_ ?_).mono ?_); (exact own_mods (own_mods (own_mods odW hM1 (fun _ _ h => h)) m3 (fun g hg h => hqd g h hg)) (by (repeat (first | with_reducible exact Mods.refl _ _ | with_reducible refine Mods.alloc ?_ _ | with_reducible refine Mods.drew ?_))) (fun _ _ h => h)); (first | done | (repeat (first | with_reducible refine Blk.drew ?_ | with_reducible exact Blk.newAt _ _ _ (by simp) | with_reducible refine Blk.alloc ?_ _ | refine Blk.mods ?_ m3 (fun h => by have := (World.ownsRow.lt oqW _ h).2; omega)))); (exact fun h => by have := (World.ownsRow.lt odW _ h).2; have := hM1.size; have := m3.size; omega); (have := hM1.size; have := m3.size; simp; omega); rintro e w4 hins; obtain ⟨g4, cap4, rfl, own4, m4, h4, hB4, hg4⟩ := hins.at_; clear hins; obtain ⟨rc4, hM2⟩ := RC.step m4 rc3 (by (repeat (first | with_reducible exact Mods.refl _ _ | with_reducible refine Mods.alloc ?_ _ | with_reducible refine Mods.drew ?_))) hdr))
            dsimp only
            refine hK.out _ _ (fun _ => (by refine RC.cells ?_; repeat (first | with_reducible assumption | with_reducible refine RC.drew ?_ | with_reducible refine RC.alloc ?_ _))) ?_
            clear hK K
            try simp only [Act.put, List.setIfInBounds_toArray, List.set_cons_zero, List.set_cons_succ]
            refine wpAnyT_tail 17 rfl (by kernel_rfl) (by kernel_rfl) ?_
            simp only [List.drop_succ_cons, List.drop_zero]
            obtain ⟨fz1, fz2⟩ := rc4.fz
            obtain ⟨cz1, cz2⟩ := rc4.cells
            go_wp2_with fail
            refine NoPanic.normal ?_
            go_wp2_with fail
            go_ret
            exact ⟨rfl, add_close hB blW rW ownW oqW odW hqd hM1 own3 m3 h3 hg3 hM2 own4 m4 h4⟩
          exact AllReadyT.nil
        exact AllReadyT.nil
      exact AllReadyT.nil
    refine AllReadyT.cons rfl (fun K hK => ?_) ?_
    · go_simp
      refine hK.out _ _ (fun _ => (by refine RC.cells ?_; repeat (first | with_reducible assumption | with_reducible refine RC.drew ?_ | with_reducible refine RC.alloc ?_ _))) ?_
      clear hK K
      try simp only [Act.put, List.setIfInBounds_toArray, List.set_cons_zero, List.set_cons_succ]
      refine wpAnyT_ready (rs := [8]) (by kernel_rfl) (by simp) ?_
      refine AllReadyT.cons rfl (fun K hK => ?_) ?_
      · go_simp
        refine hK.out _ _ (fun _ => (by refine RC.cells ?_; repeat (first | with_reducible assumption | with_reducible refine RC.drew ?_ | with_reducible refine RC.alloc ?_ _))) ?_
        clear hK K
        try simp only [Act.put, List.setIfInBounds_toArray, List.set_cons_zero, List.set_cons_succ]
        refine wpAnyT_ready (rs := [9]) (by kernel_rfl) (by simp) ?_
        refine AllReadyT.cons rfl (fun K hK => ?_) ?_
        · go_simp
          (go_at_call 35; ((with_reducible refine (ins_int (base := B) (v := .slice qa n qc) (xs := Q) (u := .int .i64 q0) _ ?_ hin (by omega) rfl o2 ?_ ?_ ?_).mono ?_); (exact own_mods oqW (by (repeat (first | with_reducible exact Mods.refl _ _ | with_reducible refine Mods.alloc ?_ _ | with_reducible refine Mods.drew ?_))) (fun _ _ h => h)); (repeat (first | with_reducible refine Blk.drew ?_ | with_reducible exact Blk.newAt _ _ _ (by simp) | with_reducible refine Blk.alloc ?_ _)); (exact fun h => by have := (World.ownsRow.lt oqW _ h).2; omega); (simp; omega); rintro e w3 hins; obtain ⟨g3, cap3, rfl, own3, m3, h3, hB3, hg3⟩ := hins.at_; clear hins; obtain ⟨rc3, hM1⟩ := RC.step m3 rcW (by (repeat (first | with_reducible exact Mods.refl _ _ | with_reducible refine Mods.alloc ?_ _ | with_reducible refine Mods.drew ?_))) hqr))
          dsimp only
          refine hK.out _ _ (fun _ => (by refine RC.cells ?_; repeat (first | with_reducible assumption | with_reducible refine RC.drew ?_ | with_reducible refine RC.alloc ?_ _))) ?_
          clear hK K
          try simp only [Act.put, List.setIfInBounds_toArray, List.set_cons_zero, List.set_cons_succ]
          refine wpAnyT_ready (rs := [16]) (by kernel_rfl) (by simp) ?_
          refine AllReadyT.cons rfl (fun K hK => ?_) ?_
          · go_simp
            (go_at_call 35; ((with_reducible refine (ins_int (base := B) (v := .slice da n dc) (xs := D) (u := .int .i64 0) _ ?_ hin (by omega) rfl o3 ?_ ?_ ?_).mono ?_); (exact own_mods (own_mods (own_mods odW hM1 (fun _ _ h => h)) m3 (fun g hg h => hqd g h hg)) (by (repeat (first | with_reducible exact Mods.refl _ _ | with_reducible refine Mods.alloc ?_ _ | with_reducible refine Mods.drew ?_))) (fun _ _ h => h)); (first | done | (repeat (first | with_reducible refine Blk.drew ?_ | with_reducible exact Blk.newAt _ _ _ (by simp) | with_reducible refine Blk.alloc ?_ _ | refine Blk.mods ?_ m3 (fun h => by have := (World.ownsRow.lt oqW _ h).2; omega)))); (exact fun h => by have := (World.ownsRow.lt odW _ h).2; have := hM1.size; have := m3.size; omega); (have := hM1.size; have := m3.size; simp; omega); rintro e w4 hins; obtain ⟨g4, cap4, rfl, own4, m4, h4, hB4, hg4⟩ := hins.at_; clear hins; obtain ⟨rc4, hM2⟩ := RC.step m4 rc3 (by (repeat (first | with_reducible exact Mods.refl _ _ | with_reducible refine Mods.alloc ?_ _ | with_reducible refine Mods.drew ?_))) hdr))
            dsimp only
            refine hK.out _ _ (fun _ => (by refine RC.cells ?_; repeat (first | with_reducible assumption | with_reducible refine RC.drew ?_ | with_reducible refine RC.alloc ?_ _))) ?_
            clear hK K
            try simp only [Act.put, List.setIfInBounds_toArray, List.set_cons_zero, List.set_cons_succ]
            refine wpAnyT_tail 17 rfl (by kernel_rfl) (by kernel_rfl) ?_
            simp only [List.drop_succ_cons, List.drop_zero]
            obtain ⟨fz1, fz2⟩ := rc4.fz
            obtain ⟨cz1, cz2⟩ := rc4.cells
            go_wp2_with fail
            refine NoPanic.normal ?_
            go_wp2_with fail
            go_ret
            exact ⟨rfl, add_close hB blW rW ownW oqW odW hqd hM1 own3 m3 h3 hg3 hM2 own4 m4 h4⟩
          exact AllReadyT.nil
        exact AllReadyT.nil
      exact AllReadyT.nil
    exact AllReadyT.nil
end Go.Proofs.Yteiaojapolpjaaa
