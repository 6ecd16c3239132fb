/- Ether, part 18: EtherFrames, walked. -/
import Derived.Test.YteiaojapolpjaaaDoorEthR
import Derived.Deep.Onto
namespace Go.Proofs.YteiaojapolpjaaaDoor
open Go.RowKit Go.WB

def oursB (k : Int) : Bool := k == 2048 || k == 34525
theorem ours_any (k : Int) (w : World) : Calls Tryd.prog 15 #[.int .u16 k] w fun e w' => e = .returned (.bool (oursB k)) ∧ Below w.heap.size w w' := by
  by_cases h : k = 2048
  · subst h
    exact (ours_a w).mono fun e w' ⟨he, h⟩ => ⟨by rw [he]; rfl, h⟩
  · refine (ours_b k w h).mono fun e w' ⟨he, h'⟩ => ⟨?_, h'⟩
    have e1 : oursB k = (34525 == k) := by
      unfold oursB
      rw [beq_eq_false_iff_ne.2 h, Bool.false_or]
      by_cases h2 : k = 34525
      · subst h2; rfl
      · rw [beq_eq_false_iff_ne.2 h2, beq_eq_false_iff_ne.2 (fun h3 => h2 h3.symm)]
    rw [he, e1]
set_option maxHeartbeats 1000000 in
set_option maxRecDepth 100000 in
theorem rours_any (k : Int) (w : World) : Calls Tryd.prog 16 #[.int .u16 k] w fun e w' => e = .returned (.bool (oursB k)) ∧ Below w.heap.size w w' := by
  by_cases h : k = 2048
  · have hb : (k == 2048) = true := by subst h; rfl
    have ho : oursB k = true := by subst h; rfl
    rw [ho]
    clear ho h
    go_enter Tryd.func16, Tryd.ntmps16
    go_wp2_with fail
    go_ret
    exact ⟨rfl, Below.refl _ _⟩
  · have hb : (k == 2048) = false := beq_eq_false_iff_ne.2 h
    have ho : oursB k = (k == 34525) := by unfold oursB; rw [hb, Bool.false_or]
    rw [ho]
    clear ho h
    go_enter Tryd.func16, Tryd.ntmps16
    go_wp2_with fail
    go_ret
    exact ⟨rfl, Below.refl _ _⟩

set_option maxHeartbeats 1000000 in
set_option maxRecDepth 100000 in
theorem frames_long (d0 d1 d2 d3 d4 d5 d6 d7 d8 d9 d10 d11 t : Int) (o : Option Addr) (n c : Nat) (w : World) (h : 4000 < n) (hE : Env w) : Calls Tryd.prog 4 #[.agg #[.int .u8 d0, .int .u8 d1, .int .u8 d2, .int .u8 d3, .int .u8 d4, .int .u8 d5, .int .u8 d6, .int .u8 d7, .int .u8 d8, .int .u8 d9, .int .u8 d10, .int .u8 d11, .int .u16 t], .slice o n c] w fun e w' => e = .returned (.bool true) ∧ Below w.heap.size w w' := by
  have bs : (4000 : Int) < (n : Int) := by omega
  go_enter Tryd.func4, Tryd.ntmps4
  go_wp2_with fail
  have B0 : Below w.heap.size w (w.alloc (.cells #[.int .u8 d0, .int .u8 d1, .int .u8 d2, .int .u8 d3, .int .u8 d4, .int .u8 d5, .int .u8 d6, .int .u8 d7, .int .u8 d8, .int .u8 d9, .int .u8 d10, .int .u8 d11, .int .u16 t] 31)) := (Below.refl _ _).alloc (Nat.le_refl _) _
  refine (known_any _ (hE.below B0)).mono ?_
  rintro e w1 ⟨rfl, b1⟩
  have B1 := B0.trans (b1.mono B0.size)
  clear B0 b1
  go_wp2_with fail
  go_ret
  exact ⟨rfl, B1⟩

/-- What the law keeps: the head's block, the bytes that came in, their copy. -/
structure Fr (w0 W : World) (N : Nat) (h : Array Value) (o : Option Addr) (xs : List Int) (v : Value) (n : Nat) : Prop where
  r : Blk W N 31 h
  p : Pay W o xs
  i : W.ownsRow (N + 1) 5 1 v n (xs.map (Value.int .u8))
  b : Below w0.heap.size w0 W
  n : w0.heap.size = N
  lt : ∀ a, o = some a → 0 < xs.length → a.block < N
section
variable {w0 W W' : World} {N n : Nat} {h : Array Value} {o : Option Addr} {xs : List Int} {v : Value}
theorem Fr.below (s : Fr w0 W N h o xs v n) (hb : Below W.heap.size W W') : Fr w0 W' N h o xs v n :=
  ⟨s.r.below hb s.r.lt, s.p.below hb (fun a ha h0 => Nat.lt_of_lt_of_le (s.n ▸ s.lt a ha h0) s.b.size), own_mods (S := fun _ => False) s.i (Mods.of_below hb) (fun _ _ h => h), s.b.trans (hb.mono s.b.size), s.n, s.lt⟩
theorem Fr.alloc (s : Fr w0 W N h o xs v n) (ob : Obj) : Fr w0 (W.alloc ob) N h o xs v n := s.below ((Below.refl _ _).alloc (Nat.le_refl _) ob)
theorem Fr.drew (s : Fr w0 W N h o xs v n) : Fr w0 W.drew N h o xs v n := s.below (below_drewN (Below.refl _ _) 1)
/-- A store into another block of the call's own. -/
theorem Fr.set_ (s : Fr w0 W N h o xs v n) {g : Nat} (hg : N < g) (hv : ∀ k, v.ownBlock = some k → k ≠ g) (j : Nat) (u : Value) : Fr w0 (W.setCell ⟨g, j, none⟩ u) N h o xs v n :=
  ⟨s.r.far (p := ⟨g, j, none⟩) (by show N ≠ g; omega) u, s.p.below (B := g) ((Below.refl _ W).setCell (p := ⟨g, j, none⟩) (Nat.le_refl _) u) (fun a ha h0 => by have := s.lt a ha h0; omega), own_mods (S := fun k => k = g) s.i (Mods.setCell (S := fun k => k = g) (p := ⟨g, j, none⟩) (Mods.refl _ _) (.inl rfl) u) (fun k hk e => hv k hk e), s.b.setCell (p := ⟨g, j, none⟩) (by have := s.n; show _ ≤ g; omega) u, s.n, s.lt⟩
theorem Fr.start {W1 : World} (hb : Below w0.heap.size w0 W1) (hr : Blk W1 w0.heap.size 31 h) (hp : Pay W1 o xs) (hi : W'.ownsRow (w0.heap.size + 1) 5 1 v n (xs.map (Value.int .u8))) (hg : W1.grownBy W' (Value.slice (some ⟨w0.heap.size + 1, 0, none⟩) 0 0).ownBlock) (hl : ∀ a, o = some a → 0 < xs.length → a.block < w0.heap.size) : Fr w0 W' w0.heap.size h o xs v n := by
  have hb2 : Below (w0.heap.size + 1) W1 W' := (Below.refl _ W1).grown hg hr.lt (fun k hk => by have h2 : w0.heap.size + 1 = k := Option.some.inj hk; omega)
  exact ⟨hr.below hb2 (by omega), hp.below hb2 (fun a ha h0 => by have := hl a ha h0; omega), hi, hb.trans (hb2.mono (by omega)), rfl, hl⟩
theorem Fr.pi {oi : Option Addr} {ci : Nat} (s : Fr w0 W N h o xs (.slice oi n ci) n) : Pay W oi xs := by
  obtain ⟨o2, c2, e, hp, _⟩ := own_pay s.i
  injection e with e1 e2 e3
  rw [e1]
  exact hp
theorem own_below {B m : Nat} {u : Value} {ys : List Value} (hi : W.ownsRow B 5 1 u m ys) (hb : Below W.heap.size W W') : W'.ownsRow B 5 1 u m ys := own_mods (S := fun _ => False) hi (Mods.of_below hb) (fun _ _ h => h)
theorem c13 {W : World} {g : Nat} {a0 a1 a2 a3 a4 a5 a6 a7 a8 a9 a10 a11 a12 : Value} (h : Blk W g 31 #[a0, a1, a2, a3, a4, a5, a6, a7, a8, a9, a10, a11, a12]) :
    W.cell? ⟨g, 0, none⟩ = some a0 ∧ W.cell? ⟨g, 1, none⟩ = some a1 ∧ W.cell? ⟨g, 2, none⟩ = some a2 ∧ W.cell? ⟨g, 3, none⟩ = some a3 ∧ W.cell? ⟨g, 4, none⟩ = some a4 ∧ W.cell? ⟨g, 5, none⟩ = some a5 ∧ W.cell? ⟨g, 6, none⟩ = some a6 ∧ W.cell? ⟨g, 7, none⟩ = some a7 ∧ W.cell? ⟨g, 8, none⟩ = some a8 ∧ W.cell? ⟨g, 9, none⟩ = some a9 ∧ W.cell? ⟨g, 10, none⟩ = some a10 ∧ W.cell? ⟨g, 11, none⟩ = some a11 ∧ W.cell? ⟨g, 12, none⟩ = some a12 :=
  ⟨h.cell 0, h.cell 1, h.cell 2, h.cell 3, h.cell 4, h.cell 5, h.cell 6, h.cell 7, h.cell 8, h.cell 9, h.cell 10, h.cell 11, h.cell 12⟩
theorem conv_own {W : World} {B m : Nat} {u : Value} {ys : List Int} (hi : W.ownsRow B 5 1 u m (ys.map (Value.int .u8))) : (convert 32 9 u).run Tryd.prog W = .ok (.string (strOfNums ys)) W := by
  obtain ⟨o, c, rfl, hp, hl, _⟩ := own_pay hi
  exact conv_pay hl hp
theorem Fr.env (s : Fr w0 W N h o xs v n) (hE : Env w0) : Env W := hE.below s.b
end

theorem rdP_len (xs : List Int) : (rdP xs).length ≤ xs.length := by
  unfold rdP
  split
  · simp
  · simp
theorem wrP_len (d0 d1 d2 d3 d4 d5 d6 d7 d8 d9 d10 d11 t : Int) (xs : List Int) : (wrP d0 d1 d2 d3 d4 d5 d6 d7 d8 d9 d10 d11 t xs).length ≤ xs.length + 14 := by
  unfold wrP
  split
  · simp [hb14]
  · simp
/-- What the law keeps behind both Writes. -/
structure Ft (w0 W : World) (N : Nat) (h : Array Value) (o : Option Addr) (xs : List Int) (v : Value) (n : Nat) (t : Int) (B1 B5 : Nat) (vp vu vv : Value) (ps us : List Int) (Z : ByteArray) : Prop where
  f : Fr w0 W N h o xs v n
  p : W.ownsRow B1 5 1 vp ps.length (ps.map (Value.int .u8))
  u : W.ownsRow B5 5 1 vu us.length (us.map (Value.int .u8))
  v : W.ownsRow 0 5 1 vv us.length (us.map (Value.int .u8))
  c : W.cell? ⟨N, 12, none⟩ = some (.int .u16 t)
  z : strOfNums us = Z
section
variable {w0 W W' : World} {N n : Nat} {h : Array Value} {o : Option Addr} {xs : List Int} {v : Value} {t : Int} {B1 B5 : Nat} {vp vu vv : Value} {ps us : List Int} {Z : ByteArray}
theorem Ft.below (s : Ft w0 W N h o xs v n t B1 B5 vp vu vv ps us Z) (hb : Below W.heap.size W W') : Ft w0 W' N h o xs v n t B1 B5 vp vu vv ps us Z :=
  ⟨s.f.below hb, own_below s.p hb, own_below s.u hb, own_below s.v hb, (hb.cell (p := ⟨N, 12, none⟩) s.f.r.lt).trans s.c, s.z⟩
theorem Ft.drew (s : Ft w0 W N h o xs v n t B1 B5 vp vu vv ps us Z) : Ft w0 W.drew N h o xs v n t B1 B5 vp vu vv ps us Z := s.below (below_drewN (Below.refl _ _) 1)
theorem Ft.all (s : Ft w0 W N h o xs v n t B1 B5 vp vu vv ps us Z) : Ft w0 W N h o xs v n t B1 B5 vp vu vv ps us Z ∧ ((convert 32 9 vu).run Tryd.prog W = .ok (.string Z) W ∧ (convert 32 9 vv).run Tryd.prog W = .ok (.string Z) W ∧ W.cell? ⟨N, 12, none⟩ = some (.int .u16 t)) :=
  ⟨s, by rw [← s.z]; exact conv_own s.u, by rw [← s.z]; exact conv_own s.v, s.c⟩
end
set_option maxHeartbeats 2000000 in
set_option maxRecDepth 100000 in
theorem frames_short (d0 d1 d2 d3 d4 d5 d6 d7 d8 d9 d10 d11 t : Int) (ht0 : 0 ≤ t) (ht1 : t ≤ 65535) (o : Option Addr) (n c : Nat) (xs : List Int) (w : World) (hx : xs.length = n) (h1 : n ≤ 4000) (hp : Pay w o xs) (hb : Bs xs) (hn : o = none → n = 0 ∧ c = 0) (hnc : n ≤ c) (hE : Env w) :
    Calls Tryd.prog 4 #[.agg #[.int .u8 d0, .int .u8 d1, .int .u8 d2, .int .u8 d3, .int .u8 d4, .int .u8 d5, .int .u8 d6, .int .u8 d7, .int .u8 d8, .int .u8 d9, .int .u8 d10, .int .u8 d11, .int .u16 t], .slice o n c] w fun e w' => e = .returned (.bool true) ∧ Below w.heap.size w w' := by
  have bs : (n : Int) ≤ 4000 := by omega
  have HX := Lib.hid hx
  have HP := Lib.hid hp
  have HB := Lib.hid hb
  have HL : Hid (∀ b, o = some b → 0 < xs.length → b.block < w.heap.size) := fun b hb h0 => by subst hb; exact At.lt hp h0
  have HEn := Lib.hid hE
  clear hx hp hb hE
  rcases o with _ | a
  · obtain ⟨rfl, rfl⟩ := hn rfl
    go_enter Tryd.func4, Tryd.ntmps4
    go_wp2_with fail
    have hxs : xs = [] := HP.out
    have R0 : Fr w ((w.alloc (.cells #[.int .u8 d0, .int .u8 d1, .int .u8 d2, .int .u8 d3, .int .u8 d4, .int .u8 d5, .int .u8 d6, .int .u8 d7, .int .u8 d8, .int .u8 d9, .int .u8 d10, .int .u8 d11, .int .u16 t] 31)).alloc (.cells #[] 5)) w.heap.size #[.int .u8 d0, .int .u8 d1, .int .u8 d2, .int .u8 d3, .int .u8 d4, .int .u8 d5, .int .u8 d6, .int .u8 d7, .int .u8 d8, .int .u8 d9, .int .u8 d10, .int .u8 d11, .int .u16 t] none xs (.slice (some ⟨w.heap.size + 1, 0, none⟩) 0 0) 0 :=
      ⟨(Blk.new w 31 _).alloc _, hxs, by subst hxs; exact own_of_blk (cur := []) (Blk.newAt _ _ _ (by simp)) (Nat.le_refl _) (Nat.le_refl _) (by unfold maxLen; omega) rfl rfl, ((Below.refl _ _).alloc (Nat.le_refl _) _).alloc (by simp) _, rfl, fun a h => by cases h⟩
    have P0 : Pay ((w.alloc (.cells #[.int .u8 d0, .int .u8 d1, .int .u8 d2, .int .u8 d3, .int .u8 d4, .int .u8 d5, .int .u8 d6, .int .u8 d7, .int .u8 d8, .int .u8 d9, .int .u8 d10, .int .u8 d11, .int .u16 t] 31)).alloc (.cells #[] 5)) (some ⟨w.heap.size + 1, 0, none⟩) xs := by subst hxs; intro i hi; simp at hi
    obtain ⟨oi, hoi⟩ : ∃ oi : Option Addr, some ⟨w.heap.size + 1, 0, none⟩ = oi := ⟨_, rfl⟩
    rw [hoi] at R0 P0
    have Hoi : oi = none → (0 : Nat) = 0 := fun _ => rfl
    generalize ((w.alloc (.cells #[.int .u8 d0, .int .u8 d1, .int .u8 d2, .int .u8 d3, .int .u8 d4, .int .u8 d5, .int .u8 d6, .int .u8 d7, .int .u8 d8, .int .u8 d9, .int .u8 d10, .int .u8 d11, .int .u16 t] 31)).alloc (.cells #[] 5)) = W0 at *
    rw [hoi]
    clear hoi hxs
    refine (read_all oi 0 0 xs _ HX.out P0 HB.out (Nat.le_refl _)).mono ?_
    rintro e W1 ⟨vp, rfl, op, b1⟩
    obtain ⟨po, pc, rfl, _, _, _, _, _⟩ := own_pay op
    have hNB := R0.r.lt
    have hin := fun k h => (World.ownsRow.lt R0.i k h).2
    have R1 := R0.below b1
    have hinB := R0.b.size
    generalize W0.heap.size = B1 at op hin b1 hNB
    clear P0 R0 b1
    unfold rdV
    have X1 : Blk (W1.alloc (.cells #[.int .u8 (rh xs 0), .int .u8 (rh xs 1), .int .u8 (rh xs 2), .int .u8 (rh xs 3), .int .u8 (rh xs 4), .int .u8 (rh xs 5), .int .u8 (rh xs 6), .int .u8 (rh xs 7), .int .u8 (rh xs 8), .int .u8 (rh xs 9), .int .u8 (rh xs 10), .int .u8 (rh xs 11), .int .u16 (rt xs)] 31)) W1.heap.size 31 #[.int .u8 (rh xs 0), .int .u8 (rh xs 1), .int .u8 (rh xs 2), .int .u8 (rh xs 3), .int .u8 (rh xs 4), .int .u8 (rh xs 5), .int .u8 (rh xs 6), .int .u8 (rh xs 7), .int .u8 (rh xs 8), .int .u8 (rh xs 9), .int .u8 (rh xs 10), .int .u8 (rh xs 11), .int .u16 (rt xs)] := Blk.new _ _ _
    have R2 := R1.alloc (.cells #[.int .u8 (rh xs 0), .int .u8 (rh xs 1), .int .u8 (rh xs 2), .int .u8 (rh xs 3), .int .u8 (rh xs 4), .int .u8 (rh xs 5), .int .u8 (rh xs 6), .int .u8 (rh xs 7), .int .u8 (rh xs 8), .int .u8 (rh xs 9), .int .u8 (rh xs 10), .int .u8 (rh xs 11), .int .u16 (rt xs)] 31)
    have op2 := op.alloc (.cells #[.int .u8 (rh xs 0), .int .u8 (rh xs 1), .int .u8 (rh xs 2), .int .u8 (rh xs 3), .int .u8 (rh xs 4), .int .u8 (rh xs 5), .int .u8 (rh xs 6), .int .u8 (rh xs 7), .int .u8 (rh xs 8), .int .u8 (rh xs 9), .int .u8 (rh xs 10), .int .u8 (rh xs 11), .int .u16 (rt xs)] 31)
    have HS1 := Lib.hid (And.intro X1 (And.intro R2 op2))
    clear X1 R2 op2 R1 op
    go_wp2_with fail
    obtain ⟨X1, R2, op2⟩ := HS1.out
    clear HS1
    generalize W1.alloc (.cells #[.int .u8 (rh xs 0), .int .u8 (rh xs 1), .int .u8 (rh xs 2), .int .u8 (rh xs 3), .int .u8 (rh xs 4), .int .u8 (rh xs 5), .int .u8 (rh xs 6), .int .u8 (rh xs 7), .int .u8 (rh xs 8), .int .u8 (rh xs 9), .int .u8 (rh xs 10), .int .u8 (rh xs 11), .int .u16 (rt xs)] 31) = W2 at *
    generalize W1.heap.size = N1 at *
    refine (rread_all none 0 0 xs _ HX.out R2.p HB.out (Nat.le_refl _)).mono ?_
    rintro e W3 ⟨vq, rfl, oq, b3⟩
    have hS1 : Hid (Blk (W3.alloc (.cells #[.int .u8 (rh xs 0), .int .u8 (rh xs 1), .int .u8 (rh xs 2), .int .u8 (rh xs 3), .int .u8 (rh xs 4), .int .u8 (rh xs 5), .int .u8 (rh xs 6), .int .u8 (rh xs 7), .int .u8 (rh xs 8), .int .u8 (rh xs 9), .int .u8 (rh xs 10), .int .u8 (rh xs 11), .int .u16 (rt xs)] 31)) N1 31 #[.int .u8 (rh xs 0), .int .u8 (rh xs 1), .int .u8 (rh xs 2), .int .u8 (rh xs 3), .int .u8 (rh xs 4), .int .u8 (rh xs 5), .int .u8 (rh xs 6), .int .u8 (rh xs 7), .int .u8 (rh xs 8), .int .u8 (rh xs 9), .int .u8 (rh xs 10), .int .u8 (rh xs 11), .int .u16 (rt xs)]) := (X1.below b3 X1.lt).alloc _
    have hS2 : Hid (Fr w (W3.alloc (.cells #[.int .u8 (rh xs 0), .int .u8 (rh xs 1), .int .u8 (rh xs 2), .int .u8 (rh xs 3), .int .u8 (rh xs 4), .int .u8 (rh xs 5), .int .u8 (rh xs 6), .int .u8 (rh xs 7), .int .u8 (rh xs 8), .int .u8 (rh xs 9), .int .u8 (rh xs 10), .int .u8 (rh xs 11), .int .u16 (rt xs)] 31)) w.heap.size #[.int .u8 d0, .int .u8 d1, .int .u8 d2, .int .u8 d3, .int .u8 d4, .int .u8 d5, .int .u8 d6, .int .u8 d7, .int .u8 d8, .int .u8 d9, .int .u8 d10, .int .u8 d11, .int .u16 t] none xs (.slice oi 0 0) 0) := (R2.below b3).alloc _
    have hS3 : Hid ((W3.alloc (.cells #[.int .u8 (rh xs 0), .int .u8 (rh xs 1), .int .u8 (rh xs 2), .int .u8 (rh xs 3), .int .u8 (rh xs 4), .int .u8 (rh xs 5), .int .u8 (rh xs 6), .int .u8 (rh xs 7), .int .u8 (rh xs 8), .int .u8 (rh xs 9), .int .u8 (rh xs 10), .int .u8 (rh xs 11), .int .u16 (rt xs)] 31)).ownsRow B1 5 1 (.slice po (rdP xs).length pc) (rdP xs).length ((rdP xs).map (Value.int .u8))) := (own_below op2 b3).alloc _
    have hcp := conv_own hS3.out
    have hcq := conv_own (oq.alloc (.cells #[.int .u8 (rh xs 0), .int .u8 (rh xs 1), .int .u8 (rh xs 2), .int .u8 (rh xs 3), .int .u8 (rh xs 4), .int .u8 (rh xs 5), .int .u8 (rh xs 6), .int .u8 (rh xs 7), .int .u8 (rh xs 8), .int .u8 (rh xs 9), .int .u8 (rh xs 10), .int .u8 (rh xs 11), .int .u16 (rt xs)] 31))
    obtain ⟨x0, x1, x2, x3, x4, x5, x6, x7, x8, x9, x10, x11, x12⟩ := c13 hS1.out
    obtain ⟨y0, y1, y2, y3, y4, y5, y6, y7, y8, y9, y10, y11, y12⟩ := c13 hS2.out.r
    clear X1 R2 op2 oq b3
    have heq := eq31 xs
    unfold rdV at heq ⊢
    obtain ⟨S, hSS⟩ : ∃ S, strOfNums (rdP xs) = S := ⟨_, rfl⟩
    rw [hSS] at hcp hcq
    have HSS := Lib.hid hSS
    obtain ⟨K, hK⟩ : ∃ K, rdK xs = K := ⟨_, rfl⟩
    rw [hK]
    have s1 : (S.toList == S.toList) = true := by simp
    have s2 : (S.toList != S.toList) = false := by simp
    have s3 : (K == K) = true := by simp
    have s4 : (K != K) = false := by simp
    clear hSS hK
    go_wp2_with fail
    obtain ⟨Wz, hWz⟩ : ∃ Wz, (W3.alloc (.cells #[.int .u8 (rh xs 0), .int .u8 (rh xs 1), .int .u8 (rh xs 2), .int .u8 (rh xs 3), .int .u8 (rh xs 4), .int .u8 (rh xs 5), .int .u8 (rh xs 6), .int .u8 (rh xs 7), .int .u8 (rh xs 8), .int .u8 (rh xs 9), .int .u8 (rh xs 10), .int .u8 (rh xs 11), .int .u16 (rt xs)] 31)) = Wz := ⟨_, rfl⟩
    rw [hWz]
    have X4 := hS1.out
    have R4 := hS2.out
    have op4 := hS3.out
    rw [hWz] at X4 R4 op4
    clear hS1 hS2 hS3 hcp hcq heq hWz s1 s2 s3 s4 x0 x1 x2 x3 x4 x5 x6 x7 x8 x9 x10 x11 x12 y0 y1 y2 y3 y4 y5 y6 y7 y8 y9 y10 y11 y12
    refine (write_all d0 d1 d2 d3 d4 d5 d6 d7 d8 d9 d10 d11 t ht0 ht1 oi 0 0 xs _ HX.out R4.pi (fun _ => rfl)).mono ?_
    rintro e W5 ⟨vu, rfl, ou, b5⟩
    obtain ⟨uo, uc, rfl, _, _, _, _, _⟩ := own_pay ou
    have hNB5 := R4.r.lt
    have hin5 := fun k h => (World.ownsRow.lt R4.i k h).2
    have hpu := fun k h => (World.ownsRow.lt op4 k h).2
    have R5 := R4.below b5
    have op5 := own_below op4 b5
    have hB4 := R4.b.size
    generalize Wz.heap.size = B5 at ou b5 hpu hNB5 hin5
    clear X4 R4 op4 b5
    obtain ⟨y0, y1, y2, y3, y4, y5, y6, y7, y8, y9, y10, y11, y12⟩ := c13 R5.r
    go_wp2_with fail
    refine (rwrite_all d0 d1 d2 d3 d4 d5 d6 d7 d8 d9 d10 d11 t ht0 ht1 none 0 0 xs _ HX.out (by omega) R5.p).mono ?_
    rintro e W6 ⟨vv, rfl, ov, b6⟩
    have R6 := R5.below b6
    have op6 := own_below op5 b6
    have ou6 := own_below ou b6
    clear R5 op5 ou y0 y1 y2 y3 y4 y5 y6 y7 y8 y9 y10 y11 y12
    have hcu := conv_own ou6
    have hcv := conv_own ov
    obtain ⟨Z, hZZ⟩ : ∃ Z, strOfNums (wrP d0 d1 d2 d3 d4 d5 d6 d7 d8 d9 d10 d11 t xs) = Z := ⟨_, rfl⟩
    rw [hZZ] at hcu hcv
    obtain ⟨K2, hK2⟩ : ∃ K, wrK xs = K := ⟨_, rfl⟩
    rw [hK2]
    have s1 : (Z.toList == Z.toList) = true := by simp
    have s2 : (Z.toList != Z.toList) = false := by simp
    have s3 : (K2 == K2) = true := by simp
    have s4 : (K2 != K2) = false := by simp
    clear hK2 b6
    obtain ⟨OB, hOB⟩ : ∃ OB, oursB t = OB := ⟨_, rfl⟩
    have s5 : (OB != OB) = false := by simp
    have s6 : (OB == OB) = true := by simp
    have T6 : Ft w W6 w.heap.size #[.int .u8 d0, .int .u8 d1, .int .u8 d2, .int .u8 d3, .int .u8 d4, .int .u8 d5, .int .u8 d6, .int .u8 d7, .int .u8 d8, .int .u8 d9, .int .u8 d10, .int .u8 d11, .int .u16 t] none xs (.slice oi 0 0) 0 t B1 B5 (.slice po (rdP xs).length pc) (.slice uo (wrP d0 d1 d2 d3 d4 d5 d6 d7 d8 d9 d10 d11 t xs).length uc) vv (rdP xs) (wrP d0 d1 d2 d3 d4 d5 d6 d7 d8 d9 d10 d11 t xs) Z := ⟨R6, op6, ou6, World.ownsRow.mono ov (Nat.zero_le _), R6.r.cell 12, hZZ⟩
    clear R6 op6 ou6 ov hcu hcv hZZ
    go_wp2_with fail
    go_region_held3 (fun W => Ft w W w.heap.size #[.int .u8 d0, .int .u8 d1, .int .u8 d2, .int .u8 d3, .int .u8 d4, .int .u8 d5, .int .u8 d6, .int .u8 d7, .int .u8 d8, .int .u8 d9, .int .u8 d10, .int .u8 d11, .int .u16 t] none xs (.slice oi 0 0) 0 t B1 B5 (.slice po (rdP xs).length pc) (.slice uo (wrP d0 d1 d2 d3 d4 d5 d6 d7 d8 d9 d10 d11 t xs).length uc) vv (rdP xs) (wrP d0 d1 d2 d3 d4 d5 d6 d7 d8 d9 d10 d11 t xs) Z ∧ ((convert 32 9 (.slice uo (wrP d0 d1 d2 d3 d4 d5 d6 d7 d8 d9 d10 d11 t xs).length uc)).run Tryd.prog W = .ok (.string Z) W ∧ (convert 32 9 vv).run Tryd.prog W = .ok (.string Z) W ∧ W.cell? ⟨w.heap.size, 12, none⟩ = some (.int .u16 t)))
      (first | (exact Ft.all (Ft.drew (by assumption))) | (exact Ft.all (by assumption)))
      (first
        | (go_at_call 15; refine (ours_any _ _).mono ?_; rintro en wA ⟨he, hb⟩; rw [hOB] at he; subst he; have hSA := Ft.below (And.left (by assumption)) hb; clear hb)
        | (go_at_call 16; refine (rours_any _ _).mono ?_; rintro en wB ⟨he, hb⟩; rw [hOB] at he; subst he; have hSB := Ft.below (And.left (by assumption)) hb; clear hb))
    have HT := Lib.hid hSB
    clear hSB hSA T6
    go_wp2_with fail
    have hpu' : ∀ k, (Value.slice po (rdP xs).length pc).ownBlock = some k → k < B5 := hpu
    obtain ⟨pn, hpn⟩ : ∃ pn, (rdP xs).length = pn := ⟨_, rfl⟩
    obtain ⟨un, hun⟩ : ∃ un, (wrP d0 d1 d2 d3 d4 d5 d6 d7 d8 d9 d10 d11 t xs).length = un := ⟨_, rfl⟩
    have F7 := HT.out.f
    have P7 := HT.out.p
    have U7 := HT.out.u
    have hpm : (pn : Int) ≤ 100000 := by rw [← hpn]; have := rdP_len xs; have := HX.out; omega
    have hum : (un : Int) ≤ 100000 := by rw [← hun]; have := wrP_len d0 d1 d2 d3 d4 d5 d6 d7 d8 d9 d10 d11 t xs; have := HX.out; omega
    rw [hpn, hun]
    rw [hpn] at P7 hpu'
    rw [hun] at U7
    clear HT hpu hpn hun
    go_loopw [85] (fun vi wr => ∃ (k : Nat) (ps' : List Int), vi = .int .i64 k ∧ k ≤ pn ∧ ps'.length = pn ∧ Fr w wr w.heap.size #[.int .u8 d0, .int .u8 d1, .int .u8 d2, .int .u8 d3, .int .u8 d4, .int .u8 d5, .int .u8 d6, .int .u8 d7, .int .u8 d8, .int .u8 d9, .int .u8 d10, .int .u8 d11, .int .u16 t] none xs (.slice oi 0 0) 0 ∧ wr.ownsRow B1 5 1 (.slice po pn pc) pn (ps'.map (Value.int .u8)) ∧ wr.ownsRow B5 5 1 (.slice uo un uc) un ((wrP d0 d1 d2 d3 d4 d5 d6 d7 d8 d9 d10 d11 t xs).map (Value.int .u8))) (fun vi _ => pn - (intOf vi).toNat)
    case atStart => exact ⟨0, _, rfl, Nat.zero_le _, by have := P7.1; simpa using this, F7, P7, U7⟩
    case round =>
      obtain ⟨k, ps', rfl, hk, hl, F, P, U⟩ := hrel
      clear F7 P7 U7
      by_cases hkn : k < pn
      · have g1 : (k : Int) < (pn : Int) := by omega
        have g0 : (0 : Int) ≤ (k : Int) := by omega
        obtain ⟨g, cap, hsl, hBg, hgl⟩ := P.form (by omega)
        injection hsl with e1 e2 e3
        subst e1
        subst e3
        have c0 : wr.cell? ⟨g, k, none⟩ = some (.int .u8 (ps'.getD k 0)) := by
          rw [P.cellAt k (by omega)]
          simp [List.getD, List.getElem?_eq_getElem (show k < ps'.length by omega)]
        have f0 := P.frozenAt k
        obtain ⟨X, hX⟩ : ∃ X, ps'.getD k 0 = X := ⟨_, rfl⟩
        rw [hX] at c0
        have F2 := F.set_ (g := g) (by omega) (fun q hq e => by have := hin q hq; omega) k (.int .u8 ((X + 1) % 256))
        have P2 := (P.stored k (.int .u8 ((X + 1) % 256))).1
        have U2 := own_mods (S := fun q => q = g) U (Mods.setCell (S := fun q => q = g) (p := ⟨g, k, none⟩) (Mods.refl _ _) (.inl rfl) (.int .u8 ((X + 1) % 256))) (fun q hq e => by have := (World.ownsRow.lt U q hq).1; have := hpu' g rfl; omega)
        rw [show (ps'.map (Value.int .u8)).set k (.int .u8 ((X + 1) % 256)) = (ps'.set k ((X + 1) % 256)).map (Value.int .u8) by simp] at P2
        have HA := Lib.hid (And.intro F2 (And.intro P2 U2))
        clear F P U F2 P2 U2 hX
        go_wp2_with fail
        go_roundw
        case rel => exact ⟨k + 1, ps'.set k ((X + 1) % 256), by go_num, by omega, by simpa using hl, HA.out.1, HA.out.2.1, HA.out.2.2⟩
        case measure => simp [intOf]; omega
      · obtain rfl : k = pn := by omega
        have HA := Lib.hid (And.intro F U)
        clear F U P
        go_wp2_with fail
        obtain ⟨F, U⟩ := HA.out
        clear HA
        obtain ⟨wo, rfl⟩ : ∃ wo : World, wo = wr := ⟨_, rfl⟩
        go_loopw [97] (fun vi wr => ∃ (k : Nat) (us' : List Int), vi = .int .i64 k ∧ k ≤ un ∧ us'.length = un ∧ Fr w wr w.heap.size #[.int .u8 d0, .int .u8 d1, .int .u8 d2, .int .u8 d3, .int .u8 d4, .int .u8 d5, .int .u8 d6, .int .u8 d7, .int .u8 d8, .int .u8 d9, .int .u8 d10, .int .u8 d11, .int .u16 t] none xs (.slice oi 0 0) 0 ∧ wr.ownsRow B5 5 1 (.slice uo un uc) un (us'.map (Value.int .u8))) (fun vi _ => un - (intOf vi).toNat)
        case atStart => exact ⟨0, _, rfl, Nat.zero_le _, by have := U.1; simpa using this, F, U⟩
        case round =>
          obtain ⟨j, us', rfl, hj, hl2, F, U⟩ := hrel
          by_cases hjn : j < un
          · have g1 : (j : Int) < (un : Int) := by omega
            have g0 : (0 : Int) ≤ (j : Int) := by omega
            obtain ⟨g, cap, hsl, hBg, hgl⟩ := U.form (by omega)
            injection hsl with e1 e2 e3
            subst e1
            subst e3
            have c0 : wr.cell? ⟨g, j, none⟩ = some (.int .u8 (us'.getD j 0)) := by
              rw [U.cellAt j (by omega)]
              simp [List.getD, List.getElem?_eq_getElem (show j < us'.length by omega)]
            have f0 := U.frozenAt j
            obtain ⟨X, hX⟩ : ∃ X, us'.getD j 0 = X := ⟨_, rfl⟩
            rw [hX] at c0
            have F2 := F.set_ (g := g) (by omega) (fun q hq e => by have := hin5 q hq; omega) j (.int .u8 ((X + 1) % 256))
            have U2 := (U.stored j (.int .u8 ((X + 1) % 256))).1
            rw [show (us'.map (Value.int .u8)).set j (.int .u8 ((X + 1) % 256)) = (us'.set j ((X + 1) % 256)).map (Value.int .u8) by simp] at U2
            have HA := Lib.hid (And.intro F2 U2)
            clear F U F2 U2 hX
            go_wp2_with fail
            go_roundw
            case rel => exact ⟨j + 1, us'.set j ((X + 1) % 256), by go_num, by omega, by simpa using hl2, HA.out.1, HA.out.2⟩
            case measure => simp [intOf]; omega
          · obtain rfl : j = un := by omega
            have hci := conv_own F.i
            have hcb := conv_pay (c := 0) HX.out F.p
            obtain ⟨Y, hYY⟩ : ∃ Y, strOfNums xs = Y := ⟨_, rfl⟩
            rw [hYY] at hci hcb
            have s7 : (Y.toList == Y.toList) = true := by simp
            have HF := Lib.hid F
            clear F U hYY
            go_wp2_with fail
            refine (known_any _ (HF.out.env HEn.out)).mono ?_
            rintro e w9 ⟨rfl, b9⟩
            have b10 := HF.out.b.trans (b9.mono HF.out.b.size)
            clear b9 HF hci hcb
            go_wp2_with fail
            go_ret
            exact ⟨rfl, b10⟩
  · clear hn
    have BB : Below w.heap.size w ((w.alloc (.cells #[.int .u8 d0, .int .u8 d1, .int .u8 d2, .int .u8 d3, .int .u8 d4, .int .u8 d5, .int .u8 d6, .int .u8 d7, .int .u8 d8, .int .u8 d9, .int .u8 d10, .int .u8 d11, .int .u16 t] 31)).alloc (.cells #[] 5)) := ((Below.refl _ _).alloc (Nat.le_refl _) _).alloc (by simp) _
    have P1 : At ((w.alloc (.cells #[.int .u8 d0, .int .u8 d1, .int .u8 d2, .int .u8 d3, .int .u8 d4, .int .u8 d5, .int .u8 d6, .int .u8 d7, .int .u8 d8, .int .u8 d9, .int .u8 d10, .int .u8 d11, .int .u16 t] 31)).alloc (.cells #[] 5)) a xs := Pay.below (o := some a) HP.out BB HL.out
    have O1 : ((w.alloc (.cells #[.int .u8 d0, .int .u8 d1, .int .u8 d2, .int .u8 d3, .int .u8 d4, .int .u8 d5, .int .u8 d6, .int .u8 d7, .int .u8 d8, .int .u8 d9, .int .u8 d10, .int .u8 d11, .int .u16 t] 31)).alloc (.cells #[] 5)).ownsRow (w.heap.size + 1) 5 1 (.slice (some ⟨w.heap.size + 1, 0, none⟩) 0 0) 0 [] := own_of_blk (cur := []) (Blk.newAt _ _ _ (by simp)) (Nat.le_refl _) (Nat.le_refl _) (by unfold maxLen; omega) rfl rfl
    have R1 : Blk ((w.alloc (.cells #[.int .u8 d0, .int .u8 d1, .int .u8 d2, .int .u8 d3, .int .u8 d4, .int .u8 d5, .int .u8 d6, .int .u8 d7, .int .u8 d8, .int .u8 d9, .int .u8 d10, .int .u8 d11, .int .u16 t] 31)).alloc (.cells #[] 5)) w.heap.size 31 #[.int .u8 d0, .int .u8 d1, .int .u8 d2, .int .u8 d3, .int .u8 d4, .int .u8 d5, .int .u8 d6, .int .u8 d7, .int .u8 d8, .int .u8 d9, .int .u8 d10, .int .u8 d11, .int .u16 t] := (Blk.new w 31 _).alloc _
    have HBB := Lib.hid BB
    have HP1 := Lib.hid P1
    have HO1 := Lib.hid O1
    have HR1 := Lib.hid R1
    clear BB P1 O1 R1
    go_enter Tryd.func4, Tryd.ntmps4
    go_wp2_with (at_builtin; refine wpList_append_own _ (by rfl) _ _ 32 (by rfl) (w.heap.size + 1) 5 Tryd.t5 (.int .u8 0) 1 1 Tryd.underlying32 (by kernel_rfl) (by kernel_rfl) rfl rfl rfl (by decide) (.slice (some ⟨w.heap.size + 1, 0, none⟩) 0 0) 0 [] (by rfl) HO1.out a n c (xs.map (Value.int .u8)) (by rfl) (by have := HX.out; simp; omega) (At.news HP1.out) (by intro u hu; obtain ⟨x, _, rfl⟩ := List.mem_map.1 hu; rfl) (by unfold maxLen; omega) (by omega) (by simp) ?_; intro v1 W0 hown1 hgrow1 _; simp only [Nat.zero_add, List.nil_append] at hown1; obtain ⟨oi, ci, rfl, P0, _, hnci, Hoi, _⟩ := own_pay hown1; have R0 : Fr w W0 w.heap.size #[.int .u8 d0, .int .u8 d1, .int .u8 d2, .int .u8 d3, .int .u8 d4, .int .u8 d5, .int .u8 d6, .int .u8 d7, .int .u8 d8, .int .u8 d9, .int .u8 d10, .int .u8 d11, .int .u16 t] (some a) xs (.slice oi n ci) n := Fr.start HBB.out HR1.out (o := some a) HP1.out hown1 hgrow1 HL.out; clear hown1 hgrow1)
    refine (read_all oi n ci xs _ HX.out P0 HB.out hnci).mono ?_
    rintro e W1 ⟨vp, rfl, op, b1⟩
    obtain ⟨po, pc, rfl, _, _, _, _, _⟩ := own_pay op
    have hNB := R0.r.lt
    have hin := fun k h => (World.ownsRow.lt R0.i k h).2
    have R1 := R0.below b1
    have hinB := R0.b.size
    generalize W0.heap.size = B1 at op hin b1 hNB
    clear P0 R0 b1
    unfold rdV
    have X1 : Blk (W1.alloc (.cells #[.int .u8 (rh xs 0), .int .u8 (rh xs 1), .int .u8 (rh xs 2), .int .u8 (rh xs 3), .int .u8 (rh xs 4), .int .u8 (rh xs 5), .int .u8 (rh xs 6), .int .u8 (rh xs 7), .int .u8 (rh xs 8), .int .u8 (rh xs 9), .int .u8 (rh xs 10), .int .u8 (rh xs 11), .int .u16 (rt xs)] 31)) W1.heap.size 31 #[.int .u8 (rh xs 0), .int .u8 (rh xs 1), .int .u8 (rh xs 2), .int .u8 (rh xs 3), .int .u8 (rh xs 4), .int .u8 (rh xs 5), .int .u8 (rh xs 6), .int .u8 (rh xs 7), .int .u8 (rh xs 8), .int .u8 (rh xs 9), .int .u8 (rh xs 10), .int .u8 (rh xs 11), .int .u16 (rt xs)] := Blk.new _ _ _
    have R2 := R1.alloc (.cells #[.int .u8 (rh xs 0), .int .u8 (rh xs 1), .int .u8 (rh xs 2), .int .u8 (rh xs 3), .int .u8 (rh xs 4), .int .u8 (rh xs 5), .int .u8 (rh xs 6), .int .u8 (rh xs 7), .int .u8 (rh xs 8), .int .u8 (rh xs 9), .int .u8 (rh xs 10), .int .u8 (rh xs 11), .int .u16 (rt xs)] 31)
    have op2 := op.alloc (.cells #[.int .u8 (rh xs 0), .int .u8 (rh xs 1), .int .u8 (rh xs 2), .int .u8 (rh xs 3), .int .u8 (rh xs 4), .int .u8 (rh xs 5), .int .u8 (rh xs 6), .int .u8 (rh xs 7), .int .u8 (rh xs 8), .int .u8 (rh xs 9), .int .u8 (rh xs 10), .int .u8 (rh xs 11), .int .u16 (rt xs)] 31)
    have HS1 := Lib.hid (And.intro X1 (And.intro R2 op2))
    clear X1 R2 op2 R1 op
    go_wp2_with fail
    obtain ⟨X1, R2, op2⟩ := HS1.out
    clear HS1
    generalize W1.alloc (.cells #[.int .u8 (rh xs 0), .int .u8 (rh xs 1), .int .u8 (rh xs 2), .int .u8 (rh xs 3), .int .u8 (rh xs 4), .int .u8 (rh xs 5), .int .u8 (rh xs 6), .int .u8 (rh xs 7), .int .u8 (rh xs 8), .int .u8 (rh xs 9), .int .u8 (rh xs 10), .int .u8 (rh xs 11), .int .u16 (rt xs)] 31) = W2 at *
    generalize W1.heap.size = N1 at *
    refine (rread_all (some a) n c xs _ HX.out R2.p HB.out hnc).mono ?_
    rintro e W3 ⟨vq, rfl, oq, b3⟩
    have hS1 : Hid (Blk (W3.alloc (.cells #[.int .u8 (rh xs 0), .int .u8 (rh xs 1), .int .u8 (rh xs 2), .int .u8 (rh xs 3), .int .u8 (rh xs 4), .int .u8 (rh xs 5), .int .u8 (rh xs 6), .int .u8 (rh xs 7), .int .u8 (rh xs 8), .int .u8 (rh xs 9), .int .u8 (rh xs 10), .int .u8 (rh xs 11), .int .u16 (rt xs)] 31)) N1 31 #[.int .u8 (rh xs 0), .int .u8 (rh xs 1), .int .u8 (rh xs 2), .int .u8 (rh xs 3), .int .u8 (rh xs 4), .int .u8 (rh xs 5), .int .u8 (rh xs 6), .int .u8 (rh xs 7), .int .u8 (rh xs 8), .int .u8 (rh xs 9), .int .u8 (rh xs 10), .int .u8 (rh xs 11), .int .u16 (rt xs)]) := (X1.below b3 X1.lt).alloc _
    have hS2 : Hid (Fr w (W3.alloc (.cells #[.int .u8 (rh xs 0), .int .u8 (rh xs 1), .int .u8 (rh xs 2), .int .u8 (rh xs 3), .int .u8 (rh xs 4), .int .u8 (rh xs 5), .int .u8 (rh xs 6), .int .u8 (rh xs 7), .int .u8 (rh xs 8), .int .u8 (rh xs 9), .int .u8 (rh xs 10), .int .u8 (rh xs 11), .int .u16 (rt xs)] 31)) w.heap.size #[.int .u8 d0, .int .u8 d1, .int .u8 d2, .int .u8 d3, .int .u8 d4, .int .u8 d5, .int .u8 d6, .int .u8 d7, .int .u8 d8, .int .u8 d9, .int .u8 d10, .int .u8 d11, .int .u16 t] (some a) xs (.slice oi n ci) n) := (R2.below b3).alloc _
    have hS3 : Hid ((W3.alloc (.cells #[.int .u8 (rh xs 0), .int .u8 (rh xs 1), .int .u8 (rh xs 2), .int .u8 (rh xs 3), .int .u8 (rh xs 4), .int .u8 (rh xs 5), .int .u8 (rh xs 6), .int .u8 (rh xs 7), .int .u8 (rh xs 8), .int .u8 (rh xs 9), .int .u8 (rh xs 10), .int .u8 (rh xs 11), .int .u16 (rt xs)] 31)).ownsRow B1 5 1 (.slice po (rdP xs).length pc) (rdP xs).length ((rdP xs).map (Value.int .u8))) := (own_below op2 b3).alloc _
    have hcp := conv_own hS3.out
    have hcq := conv_own (oq.alloc (.cells #[.int .u8 (rh xs 0), .int .u8 (rh xs 1), .int .u8 (rh xs 2), .int .u8 (rh xs 3), .int .u8 (rh xs 4), .int .u8 (rh xs 5), .int .u8 (rh xs 6), .int .u8 (rh xs 7), .int .u8 (rh xs 8), .int .u8 (rh xs 9), .int .u8 (rh xs 10), .int .u8 (rh xs 11), .int .u16 (rt xs)] 31))
    obtain ⟨x0, x1, x2, x3, x4, x5, x6, x7, x8, x9, x10, x11, x12⟩ := c13 hS1.out
    obtain ⟨y0, y1, y2, y3, y4, y5, y6, y7, y8, y9, y10, y11, y12⟩ := c13 hS2.out.r
    clear X1 R2 op2 oq b3
    have heq := eq31 xs
    unfold rdV at heq ⊢
    obtain ⟨S, hSS⟩ : ∃ S, strOfNums (rdP xs) = S := ⟨_, rfl⟩
    rw [hSS] at hcp hcq
    have HSS := Lib.hid hSS
    obtain ⟨K, hK⟩ : ∃ K, rdK xs = K := ⟨_, rfl⟩
    rw [hK]
    have s1 : (S.toList == S.toList) = true := by simp
    have s2 : (S.toList != S.toList) = false := by simp
    have s3 : (K == K) = true := by simp
    have s4 : (K != K) = false := by simp
    clear hSS hK
    go_wp2_with fail
    obtain ⟨Wz, hWz⟩ : ∃ Wz, (W3.alloc (.cells #[.int .u8 (rh xs 0), .int .u8 (rh xs 1), .int .u8 (rh xs 2), .int .u8 (rh xs 3), .int .u8 (rh xs 4), .int .u8 (rh xs 5), .int .u8 (rh xs 6), .int .u8 (rh xs 7), .int .u8 (rh xs 8), .int .u8 (rh xs 9), .int .u8 (rh xs 10), .int .u8 (rh xs 11), .int .u16 (rt xs)] 31)) = Wz := ⟨_, rfl⟩
    rw [hWz]
    have X4 := hS1.out
    have R4 := hS2.out
    have op4 := hS3.out
    rw [hWz] at X4 R4 op4
    clear hS1 hS2 hS3 hcp hcq heq hWz s1 s2 s3 s4 x0 x1 x2 x3 x4 x5 x6 x7 x8 x9 x10 x11 x12 y0 y1 y2 y3 y4 y5 y6 y7 y8 y9 y10 y11 y12
    refine (write_all d0 d1 d2 d3 d4 d5 d6 d7 d8 d9 d10 d11 t ht0 ht1 oi n ci xs _ HX.out R4.pi Hoi).mono ?_
    rintro e W5 ⟨vu, rfl, ou, b5⟩
    obtain ⟨uo, uc, rfl, _, _, _, _, _⟩ := own_pay ou
    have hNB5 := R4.r.lt
    have hin5 := fun k h => (World.ownsRow.lt R4.i k h).2
    have hpu := fun k h => (World.ownsRow.lt op4 k h).2
    have R5 := R4.below b5
    have op5 := own_below op4 b5
    have hB4 := R4.b.size
    generalize Wz.heap.size = B5 at ou b5 hpu hNB5 hin5
    clear X4 R4 op4 b5
    obtain ⟨y0, y1, y2, y3, y4, y5, y6, y7, y8, y9, y10, y11, y12⟩ := c13 R5.r
    go_wp2_with fail
    refine (rwrite_all d0 d1 d2 d3 d4 d5 d6 d7 d8 d9 d10 d11 t ht0 ht1 (some a) n c xs _ HX.out h1 R5.p).mono ?_
    rintro e W6 ⟨vv, rfl, ov, b6⟩
    have R6 := R5.below b6
    have op6 := own_below op5 b6
    have ou6 := own_below ou b6
    clear R5 op5 ou y0 y1 y2 y3 y4 y5 y6 y7 y8 y9 y10 y11 y12
    have hcu := conv_own ou6
    have hcv := conv_own ov
    obtain ⟨Z, hZZ⟩ : ∃ Z, strOfNums (wrP d0 d1 d2 d3 d4 d5 d6 d7 d8 d9 d10 d11 t xs) = Z := ⟨_, rfl⟩
    rw [hZZ] at hcu hcv
    obtain ⟨K2, hK2⟩ : ∃ K, wrK xs = K := ⟨_, rfl⟩
    rw [hK2]
    have s1 : (Z.toList == Z.toList) = true := by simp
    have s2 : (Z.toList != Z.toList) = false := by simp
    have s3 : (K2 == K2) = true := by simp
    have s4 : (K2 != K2) = false := by simp
    clear hK2 b6
    obtain ⟨OB, hOB⟩ : ∃ OB, oursB t = OB := ⟨_, rfl⟩
    have s5 : (OB != OB) = false := by simp
    have s6 : (OB == OB) = true := by simp
    have T6 : Ft w W6 w.heap.size #[.int .u8 d0, .int .u8 d1, .int .u8 d2, .int .u8 d3, .int .u8 d4, .int .u8 d5, .int .u8 d6, .int .u8 d7, .int .u8 d8, .int .u8 d9, .int .u8 d10, .int .u8 d11, .int .u16 t] (some a) xs (.slice oi n ci) n t B1 B5 (.slice po (rdP xs).length pc) (.slice uo (wrP d0 d1 d2 d3 d4 d5 d6 d7 d8 d9 d10 d11 t xs).length uc) vv (rdP xs) (wrP d0 d1 d2 d3 d4 d5 d6 d7 d8 d9 d10 d11 t xs) Z := ⟨R6, op6, ou6, World.ownsRow.mono ov (Nat.zero_le _), R6.r.cell 12, hZZ⟩
    clear R6 op6 ou6 ov hcu hcv hZZ
    go_wp2_with fail
    go_region_held3 (fun W => Ft w W w.heap.size #[.int .u8 d0, .int .u8 d1, .int .u8 d2, .int .u8 d3, .int .u8 d4, .int .u8 d5, .int .u8 d6, .int .u8 d7, .int .u8 d8, .int .u8 d9, .int .u8 d10, .int .u8 d11, .int .u16 t] (some a) xs (.slice oi n ci) n t B1 B5 (.slice po (rdP xs).length pc) (.slice uo (wrP d0 d1 d2 d3 d4 d5 d6 d7 d8 d9 d10 d11 t xs).length uc) vv (rdP xs) (wrP d0 d1 d2 d3 d4 d5 d6 d7 d8 d9 d10 d11 t xs) Z ∧ ((convert 32 9 (.slice uo (wrP d0 d1 d2 d3 d4 d5 d6 d7 d8 d9 d10 d11 t xs).length uc)).run Tryd.prog W = .ok (.string Z) W ∧ (convert 32 9 vv).run Tryd.prog W = .ok (.string Z) W ∧ W.cell? ⟨w.heap.size, 12, none⟩ = some (.int .u16 t)))
      (first | (exact Ft.all (Ft.drew (by assumption))) | (exact Ft.all (by assumption)))
      (first
        | (go_at_call 15; refine (ours_any _ _).mono ?_; rintro en wA ⟨he, hb⟩; rw [hOB] at he; subst he; have hSA := Ft.below (And.left (by assumption)) hb; clear hb)
        | (go_at_call 16; refine (rours_any _ _).mono ?_; rintro en wB ⟨he, hb⟩; rw [hOB] at he; subst he; have hSB := Ft.below (And.left (by assumption)) hb; clear hb))
    have HT := Lib.hid hSB
    clear hSB hSA T6
    go_wp2_with fail
    have hpu' : ∀ k, (Value.slice po (rdP xs).length pc).ownBlock = some k → k < B5 := hpu
    obtain ⟨pn, hpn⟩ : ∃ pn, (rdP xs).length = pn := ⟨_, rfl⟩
    obtain ⟨un, hun⟩ : ∃ un, (wrP d0 d1 d2 d3 d4 d5 d6 d7 d8 d9 d10 d11 t xs).length = un := ⟨_, rfl⟩
    have F7 := HT.out.f
    have P7 := HT.out.p
    have U7 := HT.out.u
    have hpm : (pn : Int) ≤ 100000 := by rw [← hpn]; have := rdP_len xs; have := HX.out; omega
    have hum : (un : Int) ≤ 100000 := by rw [← hun]; have := wrP_len d0 d1 d2 d3 d4 d5 d6 d7 d8 d9 d10 d11 t xs; have := HX.out; omega
    rw [hpn, hun]
    rw [hpn] at P7 hpu'
    rw [hun] at U7
    clear HT hpu hpn hun
    go_loopw [85] (fun vi wr => ∃ (k : Nat) (ps' : List Int), vi = .int .i64 k ∧ k ≤ pn ∧ ps'.length = pn ∧ Fr w wr w.heap.size #[.int .u8 d0, .int .u8 d1, .int .u8 d2, .int .u8 d3, .int .u8 d4, .int .u8 d5, .int .u8 d6, .int .u8 d7, .int .u8 d8, .int .u8 d9, .int .u8 d10, .int .u8 d11, .int .u16 t] (some a) xs (.slice oi n ci) n ∧ wr.ownsRow B1 5 1 (.slice po pn pc) pn (ps'.map (Value.int .u8)) ∧ wr.ownsRow B5 5 1 (.slice uo un uc) un ((wrP d0 d1 d2 d3 d4 d5 d6 d7 d8 d9 d10 d11 t xs).map (Value.int .u8))) (fun vi _ => pn - (intOf vi).toNat)
    case atStart => exact ⟨0, _, rfl, Nat.zero_le _, by have := P7.1; simpa using this, F7, P7, U7⟩
    case round =>
      obtain ⟨k, ps', rfl, hk, hl, F, P, U⟩ := hrel
      clear F7 P7 U7
      by_cases hkn : k < pn
      · have g1 : (k : Int) < (pn : Int) := by omega
        have g0 : (0 : Int) ≤ (k : Int) := by omega
        obtain ⟨g, cap, hsl, hBg, hgl⟩ := P.form (by omega)
        injection hsl with e1 e2 e3
        subst e1
        subst e3
        have c0 : wr.cell? ⟨g, k, none⟩ = some (.int .u8 (ps'.getD k 0)) := by
          rw [P.cellAt k (by omega)]
          simp [List.getD, List.getElem?_eq_getElem (show k < ps'.length by omega)]
        have f0 := P.frozenAt k
        obtain ⟨X, hX⟩ : ∃ X, ps'.getD k 0 = X := ⟨_, rfl⟩
        rw [hX] at c0
        have F2 := F.set_ (g := g) (by omega) (fun q hq e => by have := hin q hq; omega) k (.int .u8 ((X + 1) % 256))
        have P2 := (P.stored k (.int .u8 ((X + 1) % 256))).1
        have U2 := own_mods (S := fun q => q = g) U (Mods.setCell (S := fun q => q = g) (p := ⟨g, k, none⟩) (Mods.refl _ _) (.inl rfl) (.int .u8 ((X + 1) % 256))) (fun q hq e => by have := (World.ownsRow.lt U q hq).1; have := hpu' g rfl; omega)
        rw [show (ps'.map (Value.int .u8)).set k (.int .u8 ((X + 1) % 256)) = (ps'.set k ((X + 1) % 256)).map (Value.int .u8) by simp] at P2
        have HA := Lib.hid (And.intro F2 (And.intro P2 U2))
        clear F P U F2 P2 U2 hX
        go_wp2_with fail
        go_roundw
        case rel => exact ⟨k + 1, ps'.set k ((X + 1) % 256), by go_num, by omega, by simpa using hl, HA.out.1, HA.out.2.1, HA.out.2.2⟩
        case measure => simp [intOf]; omega
      · obtain rfl : k = pn := by omega
        have HA := Lib.hid (And.intro F U)
        clear F U P
        go_wp2_with fail
        obtain ⟨F, U⟩ := HA.out
        clear HA
        obtain ⟨wo, rfl⟩ : ∃ wo : World, wo = wr := ⟨_, rfl⟩
        go_loopw [97] (fun vi wr => ∃ (k : Nat) (us' : List Int), vi = .int .i64 k ∧ k ≤ un ∧ us'.length = un ∧ Fr w wr w.heap.size #[.int .u8 d0, .int .u8 d1, .int .u8 d2, .int .u8 d3, .int .u8 d4, .int .u8 d5, .int .u8 d6, .int .u8 d7, .int .u8 d8, .int .u8 d9, .int .u8 d10, .int .u8 d11, .int .u16 t] (some a) xs (.slice oi n ci) n ∧ wr.ownsRow B5 5 1 (.slice uo un uc) un (us'.map (Value.int .u8))) (fun vi _ => un - (intOf vi).toNat)
        case atStart => exact ⟨0, _, rfl, Nat.zero_le _, by have := U.1; simpa using this, F, U⟩
        case round =>
          obtain ⟨j, us', rfl, hj, hl2, F, U⟩ := hrel
          by_cases hjn : j < un
          · have g1 : (j : Int) < (un : Int) := by omega
            have g0 : (0 : Int) ≤ (j : Int) := by omega
            obtain ⟨g, cap, hsl, hBg, hgl⟩ := U.form (by omega)
            injection hsl with e1 e2 e3
            subst e1
            subst e3
            have c0 : wr.cell? ⟨g, j, none⟩ = some (.int .u8 (us'.getD j 0)) := by
              rw [U.cellAt j (by omega)]
              simp [List.getD, List.getElem?_eq_getElem (show j < us'.length by omega)]
            have f0 := U.frozenAt j
            obtain ⟨X, hX⟩ : ∃ X, us'.getD j 0 = X := ⟨_, rfl⟩
            rw [hX] at c0
            have F2 := F.set_ (g := g) (by omega) (fun q hq e => by have := hin5 q hq; omega) j (.int .u8 ((X + 1) % 256))
            have U2 := (U.stored j (.int .u8 ((X + 1) % 256))).1
            rw [show (us'.map (Value.int .u8)).set j (.int .u8 ((X + 1) % 256)) = (us'.set j ((X + 1) % 256)).map (Value.int .u8) by simp] at U2
            have HA := Lib.hid (And.intro F2 U2)
            clear F U F2 U2 hX
            go_wp2_with fail
            go_roundw
            case rel => exact ⟨j + 1, us'.set j ((X + 1) % 256), by go_num, by omega, by simpa using hl2, HA.out.1, HA.out.2⟩
            case measure => simp [intOf]; omega
          · obtain rfl : j = un := by omega
            have hci := conv_own F.i
            have hcb := conv_pay (c := c) HX.out F.p
            obtain ⟨Y, hYY⟩ : ∃ Y, strOfNums xs = Y := ⟨_, rfl⟩
            rw [hYY] at hci hcb
            have s7 : (Y.toList == Y.toList) = true := by simp
            have HF := Lib.hid F
            clear F U hYY
            go_wp2_with fail
            refine (known_any _ (HF.out.env HEn.out)).mono ?_
            rintro e w9 ⟨rfl, b9⟩
            have b10 := HF.out.b.trans (b9.mono HF.out.b.size)
            clear b9 HF hci hcb
            go_wp2_with fail
            go_ret
            exact ⟨rfl, b10⟩
end Go.Proofs.YteiaojapolpjaaaDoor
