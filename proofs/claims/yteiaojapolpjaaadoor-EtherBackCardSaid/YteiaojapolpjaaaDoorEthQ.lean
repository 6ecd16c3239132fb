/- Ether, part 16: the reference's Write, walked. -/
import Derived.Test.YteiaojapolpjaaaDoorEthP
import Derived.IntWalk
namespace Go.Proofs.YteiaojapolpjaaaDoor
open Go.RowKit Go.WB

/-- m bytes, told by a function. -/
def FB (m : Nat) (g : Nat → Int) : Array Value := Array.ofFn (n := m) fun j => .int .u8 (g j)
theorem FB_size (m : Nat) (g : Nat → Int) : (FB m g).size = m := by simp [FB]
theorem FB_get (m : Nat) (g : Nat → Int) (j : Nat) (h : j < m) : (FB m g)[j]? = some (.int .u8 (g j)) := by simp [FB, h]
theorem FB_congr {m : Nat} {g g' : Nat → Int} (h : ∀ j, j < m → g j = g' j) : FB m g = FB m g' := by
  unfold FB
  congr 1
  funext j
  rw [h j j.isLt]
theorem FB_set (m : Nat) (g : Nat → Int) (i : Nat) (v : Int) : (FB m g).setIfInBounds i (.int .u8 v) = FB m (fun j => if j = i then v else g j) := by
  apply Array.ext
  · simp [FB]
  · intro j h1 h2
    have hj : j < m := by simpa [FB] using h2
    rw [Array.getElem_setIfInBounds (by simpa [FB] using h1)]
    simp only [FB, Array.getElem_ofFn]
    by_cases e : i = j
    · subst e; simp
    · rw [if_neg e, if_neg (fun h => e h.symm)]
theorem FB_zero (m : Nat) : Array.replicate m (.int .u8 0) = FB m (fun _ => 0) := by
  apply Array.ext
  · simp [FB]
  · intro j h1 h2
    simp [FB]
theorem FB_list (xs : List Int) : (FB xs.length (fun j => xs.getD j 0)).toList = xs.map (Value.int .u8) := by
  apply List.ext_getElem
  · simp [FB]
  · intro j h1 h2
    simp [FB] at h1
    simp [FB, h1]
/-- The address bytes. -/
def DD (d0 d1 d2 d3 d4 d5 d6 d7 d8 d9 d10 d11 : Int) (j : Nat) : Int := [d0, d1, d2, d3, d4, d5, d6, d7, d8, d9, d10, d11].getD j 0
def g1 (d0 d1 d2 d3 d4 d5 d6 d7 d8 d9 d10 d11 : Int) (k j : Nat) : Int := if j < 12 ∧ j % 6 < k then DD d0 d1 d2 d3 d4 d5 d6 d7 d8 d9 d10 d11 j else 0
def g2 (d0 d1 d2 d3 d4 d5 d6 d7 d8 d9 d10 d11 t : Int) (xs : List Int) (i j : Nat) : Int := if j < 14 then (hb14 d0 d1 d2 d3 d4 d5 d6 d7 d8 d9 d10 d11 t).getD j 0 else if j - 14 < i then xs.getD (j - 14) 0 else 0
theorem g1_zero (d0 d1 d2 d3 d4 d5 d6 d7 d8 d9 d10 d11 : Int) (j : Nat) : g1 d0 d1 d2 d3 d4 d5 d6 d7 d8 d9 d10 d11 0 j = 0 := by unfold g1; rw [if_neg (by omega)]
theorem g1_step (d0 d1 d2 d3 d4 d5 d6 d7 d8 d9 d10 d11 : Int) (k : Nat) (hk : k < 6) (j : Nat) : (if j = 6 + k then DD d0 d1 d2 d3 d4 d5 d6 d7 d8 d9 d10 d11 (6 + k) else if j = k then DD d0 d1 d2 d3 d4 d5 d6 d7 d8 d9 d10 d11 k else g1 d0 d1 d2 d3 d4 d5 d6 d7 d8 d9 d10 d11 k j) = g1 d0 d1 d2 d3 d4 d5 d6 d7 d8 d9 d10 d11 (k + 1) j := by
  unfold g1
  by_cases h1 : j = 6 + k
  · subst h1
    rw [if_pos rfl, if_pos (by omega)]
  · rw [if_neg h1]
    by_cases h2 : j = k
    · subst h2
      rw [if_pos rfl, if_pos (by omega)]
    · rw [if_neg h2]
      by_cases h3 : j < 12 ∧ j % 6 < k
      · rw [if_pos h3, if_pos (by omega)]
      · rw [if_neg h3, if_neg (by omega)]
theorem g2_start (d0 d1 d2 d3 d4 d5 d6 d7 d8 d9 d10 d11 t : Int) (xs : List Int) (j : Nat) : (if j = 13 then t % 256 else if j = 12 then t / 256 else g1 d0 d1 d2 d3 d4 d5 d6 d7 d8 d9 d10 d11 6 j) = g2 d0 d1 d2 d3 d4 d5 d6 d7 d8 d9 d10 d11 t xs 0 j := by
  unfold g2 g1 hb14 DD
  match j with
  | 0 => rfl
  | 1 => rfl
  | 2 => rfl
  | 3 => rfl
  | 4 => rfl
  | 5 => rfl
  | 6 => rfl
  | 7 => rfl
  | 8 => rfl
  | 9 => rfl
  | 10 => rfl
  | 11 => rfl
  | 12 => rfl
  | 13 => rfl
  | j + 14 => rw [if_neg (by omega), if_neg (by omega), if_neg (by omega), if_neg (by omega), if_neg (by omega)]
theorem g2_step (d0 d1 d2 d3 d4 d5 d6 d7 d8 d9 d10 d11 t : Int) (xs : List Int) (i j : Nat) : (if j = 14 + i then xs.getD i 0 else g2 d0 d1 d2 d3 d4 d5 d6 d7 d8 d9 d10 d11 t xs i j) = g2 d0 d1 d2 d3 d4 d5 d6 d7 d8 d9 d10 d11 t xs (i + 1) j := by
  unfold g2
  by_cases h1 : j = 14 + i
  · subst h1
    rw [if_pos rfl, if_neg (by omega), if_pos (by omega), show 14 + i - 14 = i by omega]
  · rw [if_neg h1]
    by_cases h2 : j < 14
    · rw [if_pos h2, if_pos h2]
    · rw [if_neg h2, if_neg h2]
      by_cases h3 : j - 14 < i
      · rw [if_pos h3, if_pos (by omega)]
      · rw [if_neg h3, if_neg (by omega)]
theorem g2_end (d0 d1 d2 d3 d4 d5 d6 d7 d8 d9 d10 d11 t : Int) (xs : List Int) (j : Nat) (h : j < 14 + xs.length) : g2 d0 d1 d2 d3 d4 d5 d6 d7 d8 d9 d10 d11 t xs xs.length j = (hb14 d0 d1 d2 d3 d4 d5 d6 d7 d8 d9 d10 d11 t ++ xs).getD j 0 := by
  unfold g2
  have hl : (hb14 d0 d1 d2 d3 d4 d5 d6 d7 d8 d9 d10 d11 t).length = 14 := rfl
  simp only [List.getD_eq_getElem?_getD]
  by_cases h2 : j < 14
  · rw [if_pos h2, List.getElem?_append_left (by omega)]
  · rw [if_neg h2, if_pos (by omega), List.getElem?_append_right (by omega), hl]
theorem hdrD (d0 d1 d2 d3 d4 d5 d6 d7 d8 d9 d10 d11 t : Int) (k : Nat) (h : k < 12) : (#[.int .u8 d0, .int .u8 d1, .int .u8 d2, .int .u8 d3, .int .u8 d4, .int .u8 d5, .int .u8 d6, .int .u8 d7, .int .u8 d8, .int .u8 d9, .int .u8 d10, .int .u8 d11, .int .u16 t] : Array Value)[k]? = some (.int .u8 (DD d0 d1 d2 d3 d4 d5 d6 d7 d8 d9 d10 d11 k)) := by
  match k, h with
  | 0, _ => rfl
  | 1, _ => rfl
  | 2, _ => rfl
  | 3, _ => rfl
  | 4, _ => rfl
  | 5, _ => rfl
  | 6, _ => rfl
  | 7, _ => rfl
  | 8, _ => rfl
  | 9, _ => rfl
  | 10, _ => rfl
  | 11, _ => rfl
/-- What the reference's Write keeps. -/
structure Wr2 (w0 W : World) (N : Nat) (h : Array Value) (m : Nat) (g : Nat → Int) (o : Option Addr) (xs : List Int) : Prop where
  r : Blk W N 31 h
  q : Blk W (N + 1) 5 (FB m g)
  p : Pay W o xs
  b : Below w0.heap.size w0 W
  n : w0.heap.size = N
  lt : ∀ a, o = some a → 0 < xs.length → a.block < N
section
variable {w0 W W' : World} {N m : Nat} {h : Array Value} {g g' : Nat → Int} {o : Option Addr} {xs : List Int}
theorem Wr2.set_ (s : Wr2 w0 W N h m g o xs) (i : Nat) (v : Int) : Wr2 w0 (W.setCell ⟨N + 1, i, none⟩ (.int .u8 v)) N h m (fun j => if j = i then v else g j) o xs :=
  ⟨s.r.far (p := ⟨N + 1, i, none⟩) (by show N ≠ N + 1; omega) _, by rw [← FB_set]; exact s.q.set_ i _, s.p.below (B := N + 1) ((Below.refl _ W).setCell (p := ⟨N + 1, i, none⟩) (Nat.le_refl _) _) (fun a ha h0 => by have := s.lt a ha h0; omega), s.b.setCell (p := ⟨N + 1, i, none⟩) (by have := s.n; show _ ≤ N + 1; omega) _, s.n, s.lt⟩
theorem Wr2.congr (s : Wr2 w0 W N h m g o xs) (e : ∀ j, j < m → g j = g' j) : Wr2 w0 W N h m g' o xs := ⟨s.r, FB_congr e ▸ s.q, s.p, s.b, s.n, s.lt⟩
end

set_option maxHeartbeats 1000000 in
set_option maxRecDepth 100000 in
theorem rwrite_long (d0 d1 d2 d3 d4 d5 d6 d7 d8 d9 d10 d11 t : Int) (o : Option Addr) (n c : Nat) (w : World) (h1 : 1646 < n) (h2 : n ≤ 4000) : Calls Tryd.prog 14 #[.agg #[.int .u8 d0, .int .u8 d1, .int .u8 d2, .int .u8 d3, .int .u8 d4, .int .u8 d5, .int .u8 d6, .int .u8 d7, .int .u8 d8, .int .u8 d9, .int .u8 d10, .int .u8 d11, .int .u16 t], .slice o n c] w fun e w' => e = .returned (.tuple #[.slice none 0 0, .int .i64 3]) ∧ Below w.heap.size w w' := by
  have b0 : (1646 : Int) < (n : Int) := by omega
  have b1 : (n : Int) ≤ 4000 := by omega
  go_enter Tryd.func14, Tryd.ntmps14
  go_wp2_with fail
  refine bodyPost_ret (v := .tuple #[.slice none 0 0, .int .i64 3]) (by simp [results, Tryd.results14, go_sem]) rfl ⟨rfl, (Below.refl _ _).alloc (Nat.le_refl _) _⟩
set_option maxHeartbeats 1000000 in
set_option maxRecDepth 100000 in
theorem rwrite_any (d0 d1 d2 d3 d4 d5 d6 d7 d8 d9 d10 d11 t : Int) (ht0 : 0 ≤ t) (ht1 : t ≤ 65535) (o : Option Addr) (n c : Nat) (xs : List Int) (w : World) (hx : xs.length = n) (h1 : n ≤ 1646) (hp : Pay w o xs) : Calls Tryd.prog 14 #[.agg #[.int .u8 d0, .int .u8 d1, .int .u8 d2, .int .u8 d3, .int .u8 d4, .int .u8 d5, .int .u8 d6, .int .u8 d7, .int .u8 d8, .int .u8 d9, .int .u8 d10, .int .u8 d11, .int .u16 t], .slice o n c] w (WrPost d0 d1 d2 d3 d4 d5 d6 d7 d8 d9 d10 d11 t xs n w) := by
  have b0 : (n : Int) ≤ 1646 := by omega
  have hm : ∀ W : World, (Instr.makeSlice 32 (.int .i64 (14 + (n : Int))) (.int .i64 (14 + (n : Int)))).run Tryd.prog W = .ok (.slice (some ⟨W.heap.size, 0, none⟩) (14 + n) (14 + n)) (W.alloc (.cells (Array.replicate (14 + n) (.int .u8 0)) 5)) := fun W => make_u8 W (14 + n) (by omega)
  have HX := Lib.hid hx
  have HP := Lib.hid hp
  have HL : Hid (∀ a, o = some a → 0 < xs.length → a.block < w.heap.size) := fun a ha h0 => by subst ha; exact At.lt hp h0
  clear hx hp
  go_enter Tryd.func14, Tryd.ntmps14
  go_wp2_with fail
  have A0 : Wr2 w ((w.alloc (.cells #[.int .u8 d0, .int .u8 d1, .int .u8 d2, .int .u8 d3, .int .u8 d4, .int .u8 d5, .int .u8 d6, .int .u8 d7, .int .u8 d8, .int .u8 d9, .int .u8 d10, .int .u8 d11, .int .u16 t] 31)).alloc (.cells (Array.replicate (14 + n) (.int .u8 0)) 5)) w.heap.size #[.int .u8 d0, .int .u8 d1, .int .u8 d2, .int .u8 d3, .int .u8 d4, .int .u8 d5, .int .u8 d6, .int .u8 d7, .int .u8 d8, .int .u8 d9, .int .u8 d10, .int .u8 d11, .int .u16 t] (14 + n) (fun _ => 0) o xs :=
    ⟨(Blk.new w 31 _).alloc _, by rw [FB_zero]; exact Blk.newAt _ _ _ (by simp), HP.out.below (((Below.refl _ w).alloc (Nat.le_refl _) _).alloc (by simp) _) HL.out, ((Below.refl _ w).alloc (Nat.le_refl _) _).alloc (by simp) _, rfl, HL.out⟩
  have A1 := A0.congr (g' := g1 d0 d1 d2 d3 d4 d5 d6 d7 d8 d9 d10 d11 0) (fun j _ => (g1_zero d0 d1 d2 d3 d4 d5 d6 d7 d8 d9 d10 d11 j).symm)
  clear A0
  generalize ((w.alloc (.cells #[.int .u8 d0, .int .u8 d1, .int .u8 d2, .int .u8 d3, .int .u8 d4, .int .u8 d5, .int .u8 d6, .int .u8 d7, .int .u8 d8, .int .u8 d9, .int .u8 d10, .int .u8 d11, .int .u16 t] 31)).alloc (.cells (Array.replicate (14 + n) (.int .u8 0)) 5)) = W0 at *
  have HA1 := Lib.hid A1
  clear A1 hm
  go_loopw [7] (fun vi wr => ∃ k : Nat, vi = .int .i64 k ∧ k ≤ 6 ∧ Wr2 w wr w.heap.size #[.int .u8 d0, .int .u8 d1, .int .u8 d2, .int .u8 d3, .int .u8 d4, .int .u8 d5, .int .u8 d6, .int .u8 d7, .int .u8 d8, .int .u8 d9, .int .u8 d10, .int .u8 d11, .int .u16 t] (14 + n) (g1 d0 d1 d2 d3 d4 d5 d6 d7 d8 d9 d10 d11 k) o xs) (fun vi _ => 6 - (intOf vi).toNat)
  case atStart => exact ⟨0, rfl, Nat.zero_le _, HA1.out⟩
  case round =>
    obtain ⟨k, rfl, hk, A⟩ := hrel
    clear HA1
    by_cases hk6 : k < 6
    · have g1' : (k : Int) < 6 := by omega
      have g0 : (0 : Int) ≤ (k : Int) := by omega
      have gn : (k : Int) < 14 + (n : Int) := by omega
      have gn2 : 6 + (k : Int) < 14 + (n : Int) := by omega
      have hw1 : IntKind.i64.wrap (6 + (k : Int)) = 6 + (k : Int) := IntWalk.i64_in _ (by omega)
      have c0 : wr.cell? ⟨w.heap.size, k, none⟩ = some (.int .u8 (DD d0 d1 d2 d3 d4 d5 d6 d7 d8 d9 d10 d11 k)) := (A.r.cell k).trans (hdrD d0 d1 d2 d3 d4 d5 d6 d7 d8 d9 d10 d11 t k (by omega))
      have c1 : wr.cell? ⟨w.heap.size, 6 + k, none⟩ = some (.int .u8 (DD d0 d1 d2 d3 d4 d5 d6 d7 d8 d9 d10 d11 (6 + k))) := (A.r.cell (6 + k)).trans (hdrD d0 d1 d2 d3 d4 d5 d6 d7 d8 d9 d10 d11 t (6 + k) (by omega))
      have e0 : wr.cell? ⟨w.heap.size + 1, k, none⟩ = some (.int .u8 (g1 d0 d1 d2 d3 d4 d5 d6 d7 d8 d9 d10 d11 k k)) := (A.q.cell k).trans (FB_get _ _ _ (by omega))
      have f0 := A.q.frozen k
      have A2 := A.set_ k (DD d0 d1 d2 d3 d4 d5 d6 d7 d8 d9 d10 d11 k)
      have e1 : (wr.setCell ⟨w.heap.size + 1, k, none⟩ (.int .u8 (DD d0 d1 d2 d3 d4 d5 d6 d7 d8 d9 d10 d11 k))).cell? ⟨w.heap.size + 1, 6 + k, none⟩ = some (.int .u8 _) := (A2.q.cell (6 + k)).trans (FB_get _ _ _ (by omega))
      have f1 := A2.q.frozen (6 + k)
      have c1' : (wr.setCell ⟨w.heap.size + 1, k, none⟩ (.int .u8 (DD d0 d1 d2 d3 d4 d5 d6 d7 d8 d9 d10 d11 k))).cell? ⟨w.heap.size, 6 + k, none⟩ = some (.int .u8 (DD d0 d1 d2 d3 d4 d5 d6 d7 d8 d9 d10 d11 (6 + k))) := (A2.r.cell (6 + k)).trans (hdrD d0 d1 d2 d3 d4 d5 d6 d7 d8 d9 d10 d11 t (6 + k) (by omega))
      have A3 := (A2.set_ (6 + k) (DD d0 d1 d2 d3 d4 d5 d6 d7 d8 d9 d10 d11 (6 + k))).congr (g' := g1 d0 d1 d2 d3 d4 d5 d6 d7 d8 d9 d10 d11 (k + 1)) (fun j _ => g1_step d0 d1 d2 d3 d4 d5 d6 d7 d8 d9 d10 d11 k hk6 j)
      obtain ⟨X, hX⟩ : ∃ X, DD d0 d1 d2 d3 d4 d5 d6 d7 d8 d9 d10 d11 k = X := ⟨_, rfl⟩
      obtain ⟨Y, hY⟩ : ∃ Y, DD d0 d1 d2 d3 d4 d5 d6 d7 d8 d9 d10 d11 (6 + k) = Y := ⟨_, rfl⟩
      rw [hX] at c0 A2 e1 f1 c1' A3
      rw [hY] at c1 c1' A3
      have HA3 := Lib.hid A3
      clear A A2 A3 hX hY c1
      go_wp2_with fail
      go_roundw
      case rel => exact ⟨k + 1, by go_num, by omega, HA3.out⟩
      case measure => simp [intOf]; omega
    · obtain rfl : k = 6 := by omega
      have gn : (12 : Int) < 14 + (n : Int) := by omega
      have gn2 : (13 : Int) < 14 + (n : Int) := by omega
      have cT : wr.cell? ⟨w.heap.size, 12, none⟩ = some (.int .u16 t) := A.r.cell 12
      have e12 : wr.cell? ⟨w.heap.size + 1, 12, none⟩ = some (.int .u8 (g1 d0 d1 d2 d3 d4 d5 d6 d7 d8 d9 d10 d11 6 12)) := (A.q.cell 12).trans (FB_get _ _ _ (by omega))
      have f12 := A.q.frozen 12
      obtain ⟨t1, ht1'⟩ : ∃ t1, t / 256 = t1 := ⟨_, rfl⟩
      obtain ⟨t2, ht2'⟩ : ∃ t2, t % 256 = t2 := ⟨_, rfl⟩
      have hq1 : t.tdiv 256 = t1 := by rw [Int.tdiv_eq_ediv_of_nonneg ht0]; exact ht1'
      have ht1a : 0 ≤ t1 ∧ t1 ≤ 255 := by omega
      have hq2 : IntKind.u16.wrap t1 = t1 := by rw [IntKind.wrap_u16]; omega
      have hq3 : t1 % 256 = t1 := by omega
      have A2 := A.set_ 12 t1
      have cT2 : (wr.setCell ⟨w.heap.size + 1, 12, none⟩ (.int .u8 t1)).cell? ⟨w.heap.size, 12, none⟩ = some (.int .u16 t) := A2.r.cell 12
      have e13 : (wr.setCell ⟨w.heap.size + 1, 12, none⟩ (.int .u8 t1)).cell? ⟨w.heap.size + 1, 13, none⟩ = some (.int .u8 _) := (A2.q.cell 13).trans (FB_get _ _ _ (by omega))
      have f13 := A2.q.frozen 13
      have A3 := (A2.set_ 13 t2).congr (g' := g2 d0 d1 d2 d3 d4 d5 d6 d7 d8 d9 d10 d11 t xs 0) (fun j _ => by subst ht1' ht2'; exact g2_start d0 d1 d2 d3 d4 d5 d6 d7 d8 d9 d10 d11 t xs j)
      have HA3 := Lib.hid A3
      have Ht1 := Lib.hid ht1'
      clear A A2 A3 ht1' ht1a
      go_wp2_with fail
      clear cT e12 f12 cT2 e13 f13 hq1 hq2 hq3
      generalize ((wr.setCell ⟨w.heap.size + 1, 12, none⟩ (.int .u8 t1)).setCell ⟨w.heap.size + 1, 13, none⟩ (.int .u8 t2)) = W1 at *
      obtain ⟨wo, rfl⟩ : ∃ wo : World, wo = wr := ⟨_, rfl⟩
      go_loopw [8] (fun vi wr => ∃ k : Nat, vi = .int .i64 k ∧ k ≤ n ∧ Wr2 w wr w.heap.size #[.int .u8 d0, .int .u8 d1, .int .u8 d2, .int .u8 d3, .int .u8 d4, .int .u8 d5, .int .u8 d6, .int .u8 d7, .int .u8 d8, .int .u8 d9, .int .u8 d10, .int .u8 d11, .int .u16 t] (14 + n) (g2 d0 d1 d2 d3 d4 d5 d6 d7 d8 d9 d10 d11 t xs k) o xs) (fun vi _ => n - (intOf vi).toNat)
      case atStart => exact ⟨0, rfl, Nat.zero_le _, HA3.out⟩
      case round =>
        obtain ⟨k, rfl, hk, A⟩ := hrel
        clear HA3
        by_cases hkn : k < n
        · have g1' : (k : Int) < (n : Int) := by omega
          have g0 : (0 : Int) ≤ (k : Int) := by omega
          have gn : 14 + (k : Int) < 14 + (n : Int) := by omega
          have hw1 : IntKind.i64.wrap (14 + (k : Int)) = 14 + (k : Int) := IntWalk.i64_in _ (by omega)
          obtain ⟨a, rfl⟩ : ∃ a, o = some a := by
            cases o with
            | none => have e : xs = [] := HP.out; have := HX.out; subst e; simp at this; omega
            | some a => exact ⟨a, rfl⟩
          have c0 := (show At wr a xs from A.p) k (by have := HX.out; omega)
          have e0 : wr.cell? ⟨w.heap.size + 1, 14 + k, none⟩ = some (.int .u8 _) := (A.q.cell (14 + k)).trans (FB_get _ _ _ (by omega))
          have f0 := A.q.frozen (14 + k)
          have A3 := (A.set_ (14 + k) (xs.getD k 0)).congr (g' := g2 d0 d1 d2 d3 d4 d5 d6 d7 d8 d9 d10 d11 t xs (k + 1)) (fun j _ => g2_step d0 d1 d2 d3 d4 d5 d6 d7 d8 d9 d10 d11 t xs k j)
          obtain ⟨X, hX⟩ : ∃ X, xs.getD k 0 = X := ⟨_, rfl⟩
          rw [hX] at c0 A3
          have HA3 := Lib.hid A3
          clear A A3 hX
          go_wp2_with fail
          go_roundw
          case rel => exact ⟨k + 1, by go_num, by omega, HA3.out⟩
          case measure => simp [intOf]; omega
        · obtain rfl : k = n := by omega
          have HA := Lib.hid A
          clear A
          go_wp2_with fail
          go_ret2
          have A := HA.out
          have hx := HX.out
          subst hx
          refine ⟨_, rfl, ?_, A.b⟩
          have e := FB_congr (g := g2 d0 d1 d2 d3 d4 d5 d6 d7 d8 d9 d10 d11 t xs xs.length) (g' := fun j => (hb14 d0 d1 d2 d3 d4 d5 d6 d7 d8 d9 d10 d11 t ++ xs).getD j 0) (fun j hj => g2_end d0 d1 d2 d3 d4 d5 d6 d7 d8 d9 d10 d11 t xs j hj)
          have q := A.q
          rw [e] at q
          have hl : (hb14 d0 d1 d2 d3 d4 d5 d6 d7 d8 d9 d10 d11 t ++ xs).length = 14 + xs.length := by simp [hb14]; omega
          have hL := FB_list (hb14 d0 d1 d2 d3 d4 d5 d6 d7 d8 d9 d10 d11 t ++ xs)
          rw [hl] at hL
          refine own_of_blk (cur := (hb14 d0 d1 d2 d3 d4 d5 d6 d7 d8 d9 d10 d11 t ++ xs).map (Value.int .u8)) (by rw [← hL]; simpa using q) (by omega) (Nat.le_refl _) (by unfold maxLen; omega) (by rw [List.length_map, hl]) (List.take_of_length_le (by rw [List.length_map, hl]; exact Nat.le_refl _))
end Go.Proofs.YteiaojapolpjaaaDoor
