/- Ether, part 13: the reference's Read, walked. -/
import Derived.Test.YteiaojapolpjaaaDoorEthJ
import Derived.Test.YteiaojapolpjaaaDoorAp
import Derived.Deep.RegionHeld3
import Derived.Shelf.Bytes.SlClone
import Derived.IntWalk
namespace Go.Proofs.YteiaojapolpjaaaDoor
open Go.RowKit Go.WB

/-- The bytes xs lie from a on. -/
def At (W : World) (a : Addr) (xs : List Int) : Prop := ∀ i, i < xs.length → W.cell? (a.add i) = some (.int .u8 (xs.getD i 0))
def Bs (xs : List Int) : Prop := ∀ i, 0 ≤ xs.getD i 0 ∧ xs.getD i 0 ≤ 255
theorem add_block (a : Addr) (i : Nat) : (a.add i).block = a.block := by unfold Addr.add; split <;> rfl
theorem At.lt {W : World} {a : Addr} {xs : List Int} (h : At W a xs) (h0 : 0 < xs.length) : a.block < W.heap.size := (add_block a 0) ▸ World.block_lt_of_cell? W _ (h 0 h0)
theorem At.below {B : Nat} {W W' : World} {a : Addr} {xs : List Int} (h : At W a xs) (hb : Below B W W') (hB : a.block < B) : At W' a xs := fun i hi => (hb.cell (p := a.add i) (by rw [add_block]; exact hB)).trans (h i hi)

set_option maxHeartbeats 1000000 in
set_option maxRecDepth 100000 in
theorem rread_long (o : Option Addr) (n c : Nat) (w : World) (h : 1600 < n) : Calls Tryd.prog 12 #[.slice o n c] w fun e w' => e = .returned (.tuple #[ethZ, .slice none 0 0, .int .i64 3]) ∧ Below w.heap.size w w' := by
  have b0 : (1600 : Int) < (n : Int) := by omega
  go_enter Tryd.func12, Tryd.ntmps12
  go_wp2_with fail
  refine bodyPost_ret (v := .tuple #[ethZ, .slice none 0 0, .int .i64 3]) (by simp [results, Tryd.results12, go_sem, ethZ]) rfl ⟨rfl, ?_⟩
  repeat' first
    | exact Below.refl _ _
    | refine Below.setCell ?_ ?_ _
    | refine Below.alloc ?_ ?_ _
    | exact Nat.le_refl _
    | (simp; done)
    | (simp; omega)
set_option maxHeartbeats 1000000 in
set_option maxRecDepth 100000 in
theorem rread_short (o : Option Addr) (n c : Nat) (w : World) (h : n < 14) : Calls Tryd.prog 12 #[.slice o n c] w fun e w' => e = .returned (.tuple #[ethZ, .slice none 0 0, .int .i64 4]) ∧ Below w.heap.size w w' := by
  have b0 : (n : Int) ≤ 1600 := by omega
  have b1 : (n : Int) < 14 := by omega
  go_enter Tryd.func12, Tryd.ntmps12
  go_wp2_with fail
  refine bodyPost_ret (v := .tuple #[ethZ, .slice none 0 0, .int .i64 4]) (by simp [results, Tryd.results12, go_sem, ethZ]) rfl ⟨rfl, ?_⟩
  repeat' first
    | exact Below.refl _ _
    | refine Below.setCell ?_ ?_ _
    | refine Below.alloc ?_ ?_ _
    | exact Nat.le_refl _
    | (simp; done)
    | (simp; omega)
set_option maxHeartbeats 1000000 in
set_option maxRecDepth 100000 in
theorem read_long (o : Option Addr) (n c : Nat) (w : World) (h : 1600 < n) : Calls Tryd.prog 11 #[.slice o n c] w fun e w' => e = .returned (.tuple #[ethZ, .slice none 0 0, .int .i64 3]) ∧ Below w.heap.size w w' := by
  have b0 : (1600 : Int) < (n : Int) := by omega
  go_enter Tryd.func11, Tryd.ntmps11
  go_wp2_with fail
  refine bodyPost_ret (v := .tuple #[ethZ, .slice none 0 0, .int .i64 3]) (by simp [results, Tryd.results11, go_sem, ethZ]) rfl ⟨rfl, ?_⟩
  repeat' first
    | exact Below.refl _ _
    | refine Below.setCell ?_ ?_ _
    | refine Below.alloc ?_ ?_ _
    | exact Nat.le_refl _
    | (simp; done)
    | (simp; omega)

/-- The header's cells behind k rounds. -/
def hn (xs : List Int) (k j : Nat) : Int := if j % 6 < k then xs.getD j 0 else 0
def hv (xs : List Int) (k j : Nat) : Value := .int .u8 (hn xs k j)
def hd (xs : List Int) (k : Nat) (t : Int) : Array Value := #[hv xs k 0, hv xs k 1, hv xs k 2, hv xs k 3, hv xs k 4, hv xs k 5, hv xs k 6, hv xs k 7, hv xs k 8, hv xs k 9, hv xs k 10, hv xs k 11, .int .u16 t]
theorem hd_step (xs : List Int) (k : Nat) (hk : k < 6) : ((hd xs k 0).setIfInBounds k (.int .u8 (xs.getD k 0))).setIfInBounds (6 + k) (.int .u8 (xs.getD (6 + k) 0)) = hd xs (k + 1) 0 := by
  match k, hk with
  | 0, _ => simp [hd, hv, hn]
  | 1, _ => simp [hd, hv, hn]
  | 2, _ => simp [hd, hv, hn]
  | 3, _ => simp [hd, hv, hn]
  | 4, _ => simp [hd, hv, hn]
  | 5, _ => simp [hd, hv, hn]
structure RdAt (w0 W : World) (N : Nat) (xs : List Int) (k : Nat) : Prop where
  r : Blk W N 31 (hd xs 0 0)
  e : Blk W (N + 1) 31 (hd xs k 0)
  b : Below w0.heap.size w0 W
  n : w0.heap.size = N
theorem hd_cell (xs : List Int) (k j : Nat) (hj : j < 12) : (hd xs k 0)[j]? = some (hv xs k j) := by
  match j, hj with
  | 0, _ => rfl
  | 1, _ => rfl
  | 2, _ => rfl
  | 3, _ => rfl
  | 4, _ => rfl
  | 5, _ => rfl
  | 6, _ => rfl
  | 7, _ => rfl
  | 8, _ => rfl
  | 9, _ => rfl
  | 10, _ => rfl
  | 11, _ => rfl

theorem own_base {B B' size : Nat} {e : TypeId} {v : Value} {n : Nat} {xs : List Value} {W : World} (h : W.ownsRow B e size v n xs) (hB : B' ≤ B) : W.ownsRow B' e size v n xs := by
  obtain ⟨hl, h⟩ := h
  refine ⟨hl, ?_⟩
  rcases h with ⟨rfl, rfl⟩ | ⟨g, cap, cur, rfl, hb, h⟩
  · exact .inl ⟨rfl, rfl⟩
  · exact .inr ⟨g, cap, cur, rfl, Nat.le_trans hB hb, h⟩
structure Zt (W0 W : World) (N : Nat) (cs : Array Value) : Prop where
  r : Blk W N 31 cs
  m : Mods (fun k => k = N) W0 W
theorem Zt.set_ {W0 W : World} {N : Nat} {cs : Array Value} (h : Zt W0 W N cs) (j : Nat) (v : Value) : Zt W0 (W.setCell ⟨N, j, none⟩ v) N (cs.setIfInBounds j v) :=
  ⟨h.r.set_ j v, h.m.setCell (p := ⟨N, j, none⟩) (.inl rfl) v⟩
theorem arr13 (a0 a1 a2 a3 a4 a5 a6 a7 a8 a9 a10 a11 a12 v0 v1 v2 v3 v4 v5 v6 v7 v8 v9 v10 v11 v12 : Value) : (((((((((((((#[a0, a1, a2, a3, a4, a5, a6, a7, a8, a9, a10, a11, a12].setIfInBounds 0 v0).setIfInBounds 1 v1).setIfInBounds 2 v2).setIfInBounds 3 v3).setIfInBounds 4 v4).setIfInBounds 5 v5).setIfInBounds 6 v6).setIfInBounds 7 v7).setIfInBounds 8 v8).setIfInBounds 9 v9).setIfInBounds 10 v10).setIfInBounds 11 v11).setIfInBounds 12 v12) = #[v0, v1, v2, v3, v4, v5, v6, v7, v8, v9, v10, v11, v12] := by simp
theorem st13 {W : World} {N : Nat} {cs : Array Value} (hr : Blk W N 31 cs) (hz : cs.size = 13) (v0 v1 v2 v3 v4 v5 v6 v7 v8 v9 v10 v11 v12 : Value) : Zt W (((((((((((((W.setCell ⟨N, 0, none⟩ v0).setCell ⟨N, 1, none⟩ v1).setCell ⟨N, 2, none⟩ v2).setCell ⟨N, 3, none⟩ v3).setCell ⟨N, 4, none⟩ v4).setCell ⟨N, 5, none⟩ v5).setCell ⟨N, 6, none⟩ v6).setCell ⟨N, 7, none⟩ v7).setCell ⟨N, 8, none⟩ v8).setCell ⟨N, 9, none⟩ v9).setCell ⟨N, 10, none⟩ v10).setCell ⟨N, 11, none⟩ v11).setCell ⟨N, 12, none⟩ v12) N #[v0, v1, v2, v3, v4, v5, v6, v7, v8, v9, v10, v11, v12] := by
  obtain ⟨l⟩ := cs
  match l, hz with
  | [a0, a1, a2, a3, a4, a5, a6, a7, a8, a9, a10, a11, a12], _ =>
    rw [← arr13 a0 a1 a2 a3 a4 a5 a6 a7 a8 a9 a10 a11 a12 v0 v1 v2 v3 v4 v5 v6 v7 v8 v9 v10 v11 v12]
    exact ((((((((((((((Zt.mk hr (Mods.refl _ _)).set_ 0 v0).set_ 1 v1).set_ 2 v2).set_ 3 v3).set_ 4 v4).set_ 5 v5).set_ 6 v6).set_ 7 v7).set_ 8 v8).set_ 9 v9).set_ 10 v10).set_ 11 v11).set_ 12 v12)
/-- What both Reads hand back of 14 to 1600 bytes. -/
def RdPost (xs : List Int) (n : Nat) (w : World) (e : Ending) (w' : World) : Prop :=
  ∃ v', e = .returned (.tuple #[.agg (hd xs 6 (xs.getD 12 0 * 256 + xs.getD 13 0)), v', .int .i64 0]) ∧ w'.ownsRow w.heap.size 5 1 v' (n - 14) ((xs.drop 14).map (Value.int .u8)) ∧ Below w.heap.size w w'
/-- What region 12 keeps. -/
structure RdJ (w0 W : World) (a : Addr) (xs : List Int) (T : Int) (N : Nat) : Prop where
  r : ∃ cs, Blk W N 31 cs ∧ cs.size = 13
  e : Blk W (N + 1) 31 (hd xs 6 T)
  at_ : At W a xs
  b : Below w0.heap.size w0 W
  n : w0.heap.size = N
  lt : a.block < N
section
variable {w0 W W' : World} {a : Addr} {xs : List Int} {T : Int} {N : Nat}
theorem RdJ.drew (h : RdJ w0 W a xs T N) : RdJ w0 W.drew a xs T N := ⟨h.r, h.e, h.at_, below_drewN h.b 1, h.n, h.lt⟩
theorem RdJ.alloc (h : RdJ w0 W a xs T N) (o : Obj) : RdJ w0 (W.alloc o) a xs T N :=
  ⟨by obtain ⟨cs, hr, hz⟩ := h.r; exact ⟨cs, hr.alloc o, hz⟩, h.e.alloc o, h.at_.below ((Below.refl W.heap.size W).alloc (Nat.le_refl _) o) (Nat.lt_of_lt_of_le (h.n ▸ h.lt) h.b.size), h.b.alloc h.b.size o, h.n, h.lt⟩
theorem RdJ.set_ (h : RdJ w0 W a xs T N) (j : Nat) (v : Value) : RdJ w0 (W.setCell ⟨N, j, none⟩ v) a xs T N :=
  ⟨by obtain ⟨cs, hr, hz⟩ := h.r; exact ⟨_, hr.set_ j v, by simpa using hz⟩, h.e.far (p := ⟨N, j, none⟩) (by show N + 1 ≠ N; omega) v, fun i hi => (World.cell?_setCell_other _ _ _ _ (by intro e; have := congrArg Addr.block e; rw [add_block] at this; have h2 : N = a.block := this; have := h.lt; omega)).trans (h.at_ i hi), h.b.setCell (p := ⟨N, j, none⟩) (Nat.le_of_eq h.n) v, h.n, h.lt⟩
theorem RdJ.grown {H : Nat} (h : RdJ w0 W a xs T N) (hg : W.grownBy W' (some H)) (hH : N + 1 < H) : RdJ w0 W' a xs T N := by
  have far : ∀ k t cs, Blk W k t cs → k ≠ H → Blk W' k t cs := fun k t cs hk hne => (hg.block k hk.lt (by intro e; exact hne (Option.some.inj e))).trans hk
  refine ⟨?_, far _ _ _ h.e (by omega), fun i hi => hg.cell (h.at_ i hi) (by rw [add_block]; intro e; have := Option.some.inj e; have := h.lt; omega), h.b.grown hg h.b.size (by intro k hk; obtain rfl := Option.some.inj hk; have := h.n; omega), h.n, h.lt⟩
  obtain ⟨cs, hr, hz⟩ := h.r
  exact ⟨cs, far _ _ _ hr (by omega), hz⟩
def cellAt (W : World) (N j : Nat) : Value := (W.cell? ⟨N, j, none⟩).getD undef
theorem cellAt_eq {W : World} {N : Nat} {cs : Array Value} (h : Blk W N 31 cs) (hz : cs.size = 13) (j : Nat) (hj : j < 13) : W.cell? ⟨N, j, none⟩ = some (cellAt W N j) := by
  unfold cellAt
  rw [h.cell j, Array.getElem?_eq_getElem (by omega)]
  rfl
def RdJAll (w0 W : World) (a : Addr) (xs : List Int) (T : Int) (N : Nat) : Prop := RdJ w0 W a xs T N ∧ (W.cell? ⟨N + 1, 0, none⟩ = some (.int .u8 (hn xs 6 0)) ∧ W.cell? ⟨N + 1, 1, none⟩ = some (.int .u8 (hn xs 6 1)) ∧ W.cell? ⟨N + 1, 2, none⟩ = some (.int .u8 (hn xs 6 2)) ∧ W.cell? ⟨N + 1, 3, none⟩ = some (.int .u8 (hn xs 6 3)) ∧ W.cell? ⟨N + 1, 4, none⟩ = some (.int .u8 (hn xs 6 4)) ∧ W.cell? ⟨N + 1, 5, none⟩ = some (.int .u8 (hn xs 6 5)) ∧ W.cell? ⟨N + 1, 6, none⟩ = some (.int .u8 (hn xs 6 6)) ∧ W.cell? ⟨N + 1, 7, none⟩ = some (.int .u8 (hn xs 6 7)) ∧ W.cell? ⟨N + 1, 8, none⟩ = some (.int .u8 (hn xs 6 8)) ∧ W.cell? ⟨N + 1, 9, none⟩ = some (.int .u8 (hn xs 6 9)) ∧ W.cell? ⟨N + 1, 10, none⟩ = some (.int .u8 (hn xs 6 10)) ∧ W.cell? ⟨N + 1, 11, none⟩ = some (.int .u8 (hn xs 6 11)) ∧ W.cell? ⟨N + 1, 12, none⟩ = some (.int .u16 T)) ∧ (W.frozen? ⟨N, 0, none⟩ = false ∧ W.frozen? ⟨N, 1, none⟩ = false ∧ W.frozen? ⟨N, 2, none⟩ = false ∧ W.frozen? ⟨N, 3, none⟩ = false ∧ W.frozen? ⟨N, 4, none⟩ = false ∧ W.frozen? ⟨N, 5, none⟩ = false ∧ W.frozen? ⟨N, 6, none⟩ = false ∧ W.frozen? ⟨N, 7, none⟩ = false ∧ W.frozen? ⟨N, 8, none⟩ = false ∧ W.frozen? ⟨N, 9, none⟩ = false ∧ W.frozen? ⟨N, 10, none⟩ = false ∧ W.frozen? ⟨N, 11, none⟩ = false ∧ W.frozen? ⟨N, 12, none⟩ = false) ∧ (W.cell? ⟨N, 0, none⟩ = some (cellAt W N 0) ∧ W.cell? ⟨N, 1, none⟩ = some (cellAt W N 1) ∧ W.cell? ⟨N, 2, none⟩ = some (cellAt W N 2) ∧ W.cell? ⟨N, 3, none⟩ = some (cellAt W N 3) ∧ W.cell? ⟨N, 4, none⟩ = some (cellAt W N 4) ∧ W.cell? ⟨N, 5, none⟩ = some (cellAt W N 5) ∧ W.cell? ⟨N, 6, none⟩ = some (cellAt W N 6) ∧ W.cell? ⟨N, 7, none⟩ = some (cellAt W N 7) ∧ W.cell? ⟨N, 8, none⟩ = some (cellAt W N 8) ∧ W.cell? ⟨N, 9, none⟩ = some (cellAt W N 9) ∧ W.cell? ⟨N, 10, none⟩ = some (cellAt W N 10) ∧ W.cell? ⟨N, 11, none⟩ = some (cellAt W N 11) ∧ W.cell? ⟨N, 12, none⟩ = some (cellAt W N 12))
theorem RdJAll.out (h : RdJAll w0 W a xs T N) : RdJ w0 W a xs T N := h.1
theorem RdJ.all (h : RdJ w0 W a xs T N) : RdJAll w0 W a xs T N := by
  obtain ⟨cs, hr, hz⟩ := h.r
  exact ⟨h, ⟨h.e.cell 0, h.e.cell 1, h.e.cell 2, h.e.cell 3, h.e.cell 4, h.e.cell 5, h.e.cell 6, h.e.cell 7, h.e.cell 8, h.e.cell 9, h.e.cell 10, h.e.cell 11, h.e.cell 12⟩, ⟨hr.frozen 0, hr.frozen 1, hr.frozen 2, hr.frozen 3, hr.frozen 4, hr.frozen 5, hr.frozen 6, hr.frozen 7, hr.frozen 8, hr.frozen 9, hr.frozen 10, hr.frozen 11, hr.frozen 12⟩, ⟨cellAt_eq hr hz 0 (by omega), cellAt_eq hr hz 1 (by omega), cellAt_eq hr hz 2 (by omega), cellAt_eq hr hz 3 (by omega), cellAt_eq hr hz 4 (by omega), cellAt_eq hr hz 5 (by omega), cellAt_eq hr hz 6 (by omega), cellAt_eq hr hz 7 (by omega), cellAt_eq hr hz 8 (by omega), cellAt_eq hr hz 9 (by omega), cellAt_eq hr hz 10 (by omega), cellAt_eq hr hz 11 (by omega), cellAt_eq hr hz 12 (by omega)⟩⟩
theorem news14 (h : At W a xs) : ∀ j u, ((xs.drop 14).map (Value.int .u8))[j]? = some u → W.cell? ((⟨a.block, a.off + 14, none⟩ : Addr).add j) = some u := by
  intro j u hj
  rw [List.getElem?_map, List.getElem?_drop] at hj
  obtain ⟨x, hx, rfl⟩ := Option.map_eq_some_iff.1 hj
  obtain ⟨hl, hx2⟩ := List.getElem?_eq_some_iff.1 hx
  have e : (⟨a.block, a.off + 14, none⟩ : Addr).add j = a.add (14 + j) := by
    unfold Addr.add
    split
    · subst_vars; rfl
    · rw [if_neg (by omega)]; simp [Nat.add_assoc]
  rw [e, h (14 + j) hl, List.getD_eq_getElem?_getD, hx]
  rfl
end

set_option maxHeartbeats 1000000 in
set_option maxRecDepth 100000 in
theorem rread_big (a : Addr) (n c : Nat) (xs : List Int) (w : World) (hx : xs.length = n) (h0 : 14 ≤ n) (h1 : n ≤ 1600) (hc : At w a xs) (hb : Bs xs) (hcap : n ≤ c) (hc14 : ¬ c = 14) : Calls Tryd.prog 12 #[.slice (some a) n c] w (RdPost xs n w) := by
  have b0 : (n : Int) ≤ 1600 := by omega
  have b1 : (14 : Int) ≤ (n : Int) := by omega
  have HX := Lib.hid hx
  have HC := Lib.hid hc
  have HB := Lib.hid hb
  have hlt := hc.lt (by omega)
  clear hx hc hb
  go_enter Tryd.func12, Tryd.ntmps12
  go_wp2_with fail
  have A0 : RdAt w ((w.alloc (.cells #[.int .u8 0, .int .u8 0, .int .u8 0, .int .u8 0, .int .u8 0, .int .u8 0, .int .u8 0, .int .u8 0, .int .u8 0, .int .u8 0, .int .u8 0, .int .u8 0, .int .u16 0] 31)).alloc (.cells #[.int .u8 0, .int .u8 0, .int .u8 0, .int .u8 0, .int .u8 0, .int .u8 0, .int .u8 0, .int .u8 0, .int .u8 0, .int .u8 0, .int .u8 0, .int .u8 0, .int .u16 0] 31)) w.heap.size xs 0 :=
    ⟨(Blk.new w 31 _).alloc _, Blk.newAt _ _ _ (by simp), ((Below.refl _ _).alloc (Nat.le_refl _) _).alloc (by simp) _, rfl⟩
  generalize ((w.alloc (.cells #[.int .u8 0, .int .u8 0, .int .u8 0, .int .u8 0, .int .u8 0, .int .u8 0, .int .u8 0, .int .u8 0, .int .u8 0, .int .u8 0, .int .u8 0, .int .u8 0, .int .u16 0] 31)).alloc (.cells #[.int .u8 0, .int .u8 0, .int .u8 0, .int .u8 0, .int .u8 0, .int .u8 0, .int .u8 0, .int .u8 0, .int .u8 0, .int .u8 0, .int .u8 0, .int .u8 0, .int .u16 0] 31)) = W0 at *
  go_loopw [6] (fun vi wr => ∃ k : Nat, vi = .int .i64 k ∧ k ≤ 6 ∧ RdAt w wr w.heap.size xs k) (fun vi _ => 6 - (intOf vi).toNat)
  case atStart => exact ⟨0, rfl, Nat.zero_le _, A0⟩
  case round =>
    obtain ⟨k, rfl, hk, A⟩ := hrel
    clear A0
    by_cases hk6 : k < 6
    · have g1 : (k : Int) < 6 := by omega
      have g0 : (0 : Int) ≤ (k : Int) := by omega
      have g2 : (k : Int) < (n : Int) := by omega
      have hw1 : IntKind.i64.wrap (6 + (k : Int)) = 6 + (k : Int) := IntWalk.i64_in _ (by omega)
      have c0 := (HC.out.below A.b hlt) k (by have := HX.out; omega)
      have c1 := (HC.out.below A.b hlt) (6 + k) (by have := HX.out; omega)
      have hstep := hd_step xs k hk6
      have e0 := A.e
      have ce0 := (e0.cell k).trans (hd_cell xs k k (by omega))
      have ce1 := (e0.cell (6 + k)).trans (hd_cell xs k (6 + k) (by omega))
      have f0 := e0.frozen k
      obtain ⟨X, hX⟩ : ∃ X, xs.getD k 0 = X := ⟨_, rfl⟩
      obtain ⟨Y, hY⟩ : ∃ Y, xs.getD (6 + k) 0 = Y := ⟨_, rfl⟩
      rw [hX] at c0 hstep
      rw [hY] at c1 hstep
      have hne : ∀ i : Nat, (⟨w.heap.size + 1, k, none⟩ : Addr) ≠ a.add i := fun i h => by
        have := congrArg Addr.block h
        rw [add_block] at this
        have h2 : w.heap.size + 1 = a.block := this
        omega
      have c1' : (wr.setCell ⟨w.heap.size + 1, k, none⟩ (.int .u8 X)).cell? (a.add (6 + k)) = some (.int .u8 Y) := (World.cell?_setCell_other _ _ _ _ (hne _)).trans c1
      have ce1' : (wr.setCell ⟨w.heap.size + 1, k, none⟩ (.int .u8 X)).cell? ⟨w.heap.size + 1, 6 + k, none⟩ = some (hv xs k (6 + k)) := (World.cell?_setCell_other _ _ _ _ (by intro h; have := congrArg Addr.off h; have h2 : k = 6 + k := this; omega)).trans ce1
      have f1 := (e0.set_ k (.int .u8 X)).frozen (6 + k)
      have AS : RdAt w ((wr.setCell ⟨w.heap.size + 1, k, none⟩ (.int .u8 X)).setCell ⟨w.heap.size + 1, 6 + k, none⟩ (.int .u8 Y)) w.heap.size xs (k + 1) := by
        refine ⟨(A.r.far (p := ⟨w.heap.size + 1, k, none⟩) (by show w.heap.size ≠ w.heap.size + 1; omega) _).far (p := ⟨w.heap.size + 1, 6 + k, none⟩) (by show w.heap.size ≠ w.heap.size + 1; omega) _, ?_, (A.b.setCell (p := ⟨w.heap.size + 1, k, none⟩) (by show w.heap.size ≤ w.heap.size + 1; omega) _).setCell (p := ⟨w.heap.size + 1, 6 + k, none⟩) (by show w.heap.size ≤ w.heap.size + 1; omega) _, rfl⟩
        rw [← hstep]
        exact (e0.set_ k _).set_ (6 + k) _
      have HS : Hid _ := AS
      unfold hv at ce0 ce1 ce1'
      clear hstep AS A c1 ce1 e0 hX hY hne
      go_wp2_with fail
      go_roundw
      case rel => exact ⟨k + 1, by go_num, by omega, HS.out⟩
      case measure => simp [intOf]; omega
    · obtain rfl : k = 6 := by omega
      have c12 : wr.cell? ⟨a.block, a.off + 12, none⟩ = some (.int .u8 (xs.getD 12 0)) := (HC.out.below A.b hlt) 12 (by have := HX.out; omega)
      have c13 : wr.cell? ⟨a.block, a.off + 13, none⟩ = some (.int .u8 (xs.getD 13 0)) := (HC.out.below A.b hlt) 13 (by have := HX.out; omega)
      have g12 : (12 : Int) < (n : Int) := by omega
      have g13 : (13 : Int) < (n : Int) := by omega
      obtain ⟨p0, p1⟩ := HB.out 12
      obtain ⟨q0, q1⟩ := HB.out 13
      obtain ⟨X, hX⟩ : ∃ X, xs.getD 12 0 = X := ⟨_, rfl⟩
      obtain ⟨Y, hY⟩ : ∃ Y, xs.getD 13 0 = Y := ⟨_, rfl⟩
      rw [hX] at c12 p0 p1
      rw [hY] at c13 q0 q1
      have e0 := A.e
      have ce : wr.cell? ⟨w.heap.size + 1, 12, none⟩ = some (.int .u16 0) := e0.cell 12
      have fe := e0.frozen 12
      have hne : ∀ i : Nat, (⟨w.heap.size + 1, 12, none⟩ : Addr) ≠ ⟨a.block, i, none⟩ := fun i h => by
        have h2 : w.heap.size + 1 = a.block := congrArg Addr.block h
        omega
      have HX2 := Lib.hid hX
      have HY2 := Lib.hid hY
      clear hX hY e0
      go_wp2_with fail
      go_region_held3 (fun W => W.cell? ⟨a.block, a.off + 12, none⟩ = some (.int .u8 X) ∧ W.cell? ⟨a.block, a.off + 13, none⟩ = some (.int .u8 Y))
        (first | (exact ⟨c12, c13⟩) | (exact ⟨(World.cell?_setCell_other _ _ _ _ (hne _)).trans c12, (World.cell?_setCell_other _ _ _ _ (hne _)).trans c13⟩)) (fail)
      go_wp2_with fail
      have hT : IntKind.u16.wrap (IntKind.u16.wrap (IntKind.u16.wrap X * 256) + IntKind.u16.wrap Y) = X * 256 + Y := by
        simp only [IntKind.wrap_u16]
        omega
      rw [hT]
      obtain ⟨T, hTT⟩ : ∃ T, X * 256 + Y = T := ⟨_, rfl⟩
      rw [hTT]
      have J : RdJ w (wr.setCell ⟨w.heap.size + 1, 12, none⟩ (.int .u16 T)) a xs T w.heap.size := by
        refine ⟨⟨_, A.r.far (p := ⟨w.heap.size + 1, 12, none⟩) (by show w.heap.size ≠ w.heap.size + 1; omega) _, rfl⟩, ?_, fun i hi => ?_, A.b.setCell (p := ⟨w.heap.size + 1, 12, none⟩) (by show w.heap.size ≤ w.heap.size + 1; omega) _, rfl, hlt⟩
        · have hh : (hd xs 6 0).setIfInBounds 12 (.int .u16 T) = hd xs 6 T := by simp [hd]
          rw [← hh]
          exact A.e.set_ 12 _
        · refine (World.cell?_setCell_other _ _ _ _ ?_).trans (HC.out.below A.b hlt i hi)
          intro h
          have := congrArg Addr.block h
          rw [add_block] at this
          have h2 : w.heap.size + 1 = a.block := this
          omega
      have JD := J.drew
      have hsz : w.heap.size + 2 ≤ ((wr.setCell ⟨w.heap.size + 1, 12, none⟩ (.int .u16 T)).drew).heap.size := JD.e.lt
      generalize ((wr.setCell ⟨w.heap.size + 1, 12, none⟩ (.int .u16 T)).drew) = W1 at *
      have hW1 : w.heap.size + 1 < W1.heap.size := hsz
      have HA : Hid _ := A
      clear A J c12 c13 ce fe hne hT
      have gcap : (14 : Int) ≤ (c : Int) := by omega
      have gcap2 : (n : Int) ≤ (c : Int) := by omega
      have HNews := fun W (h : At W a xs) => news14 h
      have HNews := Lib.hid HNews
      have JA : RdJ w (W1.alloc (.cells #[] 5)).drew a xs T w.heap.size := RdJ.drew (RdJ.alloc JD _)
      have gn : (14 : Int) ≤ (n : Int) := by omega
      go_region_held3 (fun W => RdJ w W a xs T w.heap.size ∧ (W.cell? ⟨w.heap.size + 1, 0, none⟩ = some (.int .u8 (hn xs 6 0)) ∧ W.cell? ⟨w.heap.size + 1, 1, none⟩ = some (.int .u8 (hn xs 6 1)) ∧ W.cell? ⟨w.heap.size + 1, 2, none⟩ = some (.int .u8 (hn xs 6 2)) ∧ W.cell? ⟨w.heap.size + 1, 3, none⟩ = some (.int .u8 (hn xs 6 3)) ∧ W.cell? ⟨w.heap.size + 1, 4, none⟩ = some (.int .u8 (hn xs 6 4)) ∧ W.cell? ⟨w.heap.size + 1, 5, none⟩ = some (.int .u8 (hn xs 6 5)) ∧ W.cell? ⟨w.heap.size + 1, 6, none⟩ = some (.int .u8 (hn xs 6 6)) ∧ W.cell? ⟨w.heap.size + 1, 7, none⟩ = some (.int .u8 (hn xs 6 7)) ∧ W.cell? ⟨w.heap.size + 1, 8, none⟩ = some (.int .u8 (hn xs 6 8)) ∧ W.cell? ⟨w.heap.size + 1, 9, none⟩ = some (.int .u8 (hn xs 6 9)) ∧ W.cell? ⟨w.heap.size + 1, 10, none⟩ = some (.int .u8 (hn xs 6 10)) ∧ W.cell? ⟨w.heap.size + 1, 11, none⟩ = some (.int .u8 (hn xs 6 11)) ∧ W.cell? ⟨w.heap.size + 1, 12, none⟩ = some (.int .u16 T)) ∧ (W.frozen? ⟨w.heap.size, 0, none⟩ = false ∧ W.frozen? ⟨w.heap.size, 1, none⟩ = false ∧ W.frozen? ⟨w.heap.size, 2, none⟩ = false ∧ W.frozen? ⟨w.heap.size, 3, none⟩ = false ∧ W.frozen? ⟨w.heap.size, 4, none⟩ = false ∧ W.frozen? ⟨w.heap.size, 5, none⟩ = false ∧ W.frozen? ⟨w.heap.size, 6, none⟩ = false ∧ W.frozen? ⟨w.heap.size, 7, none⟩ = false ∧ W.frozen? ⟨w.heap.size, 8, none⟩ = false ∧ W.frozen? ⟨w.heap.size, 9, none⟩ = false ∧ W.frozen? ⟨w.heap.size, 10, none⟩ = false ∧ W.frozen? ⟨w.heap.size, 11, none⟩ = false ∧ W.frozen? ⟨w.heap.size, 12, none⟩ = false) ∧ (W.cell? ⟨w.heap.size, 0, none⟩ = some (cellAt W w.heap.size 0) ∧ W.cell? ⟨w.heap.size, 1, none⟩ = some (cellAt W w.heap.size 1) ∧ W.cell? ⟨w.heap.size, 2, none⟩ = some (cellAt W w.heap.size 2) ∧ W.cell? ⟨w.heap.size, 3, none⟩ = some (cellAt W w.heap.size 3) ∧ W.cell? ⟨w.heap.size, 4, none⟩ = some (cellAt W w.heap.size 4) ∧ W.cell? ⟨w.heap.size, 5, none⟩ = some (cellAt W w.heap.size 5) ∧ W.cell? ⟨w.heap.size, 6, none⟩ = some (cellAt W w.heap.size 6) ∧ W.cell? ⟨w.heap.size, 7, none⟩ = some (cellAt W w.heap.size 7) ∧ W.cell? ⟨w.heap.size, 8, none⟩ = some (cellAt W w.heap.size 8) ∧ W.cell? ⟨w.heap.size, 9, none⟩ = some (cellAt W w.heap.size 9) ∧ W.cell? ⟨w.heap.size, 10, none⟩ = some (cellAt W w.heap.size 10) ∧ W.cell? ⟨w.heap.size, 11, none⟩ = some (cellAt W w.heap.size 11) ∧ W.cell? ⟨w.heap.size, 12, none⟩ = some (cellAt W w.heap.size 12)))
        ((refine RdJ.all ?_; first | (with_reducible assumption) | (with_reducible exact RdJ.drew (RdJ.alloc JD _)) | (with_reducible exact RdJ.drew (by assumption)) | (with_reducible exact RdJ.alloc (RdJ.drew (by assumption)) _) | (with_reducible refine RdJ.alloc ?_ _; exact RdJAll.out (by assumption)) | (with_reducible (refine RdJ.set_ ?_ _ _; refine RdJ.set_ ?_ _ _; refine RdJ.set_ ?_ _ _; refine RdJ.set_ ?_ _ _; refine RdJ.set_ ?_ _ _; refine RdJ.set_ ?_ _ _; refine RdJ.set_ ?_ _ _; refine RdJ.set_ ?_ _ _; refine RdJ.set_ ?_ _ _; refine RdJ.set_ ?_ _ _; refine RdJ.set_ ?_ _ _; refine RdJ.set_ ?_ _ _; refine RdJ.set_ ?_ _ _); first | with_reducible assumption | exact RdJAll.out (by assumption) | (rename_i hHeld _; exact hHeld.1))))
        ((refine step_append_own _ (by rfl) _ _ _ (by rfl) (w.heap.size + 2) 5 Tryd.t5 (.int .u8 0) 1 1 Tryd.underlying32 (by kernel_rfl) (by kernel_rfl) rfl rfl rfl (by decide) (.slice (some ⟨W1.drew.heap.size, 0, none⟩) 0 0) 0 [] (by rfl) (World.ownsRow_made W1.drew #[] 0 hsz (Nat.zero_le _) rfl) ⟨a.block, a.off + 14, none⟩ (n - 14) (c - 14) ((xs.drop 14).map (Value.int .u8)) (by rfl) (by have := HX.out; simp; omega) (HNews.out _ JA.at_) (by intro u hu; obtain ⟨x, _, rfl⟩ := List.mem_map.1 hu; rfl) (by unfold maxLen; omega) (by omega) (by have := hsz; simp; omega) ?_; intro v' w' hown hgrow; have J2 := RdJ.grown JA hgrow hW1))
      obtain ⟨cs, hr, hz⟩ := J2.r
      have Z := st13 hr hz (.int .u8 (hn xs 6 0)) (.int .u8 (hn xs 6 1)) (.int .u8 (hn xs 6 2)) (.int .u8 (hn xs 6 3)) (.int .u8 (hn xs 6 4)) (.int .u8 (hn xs 6 5)) (.int .u8 (hn xs 6 6)) (.int .u8 (hn xs 6 7)) (.int .u8 (hn xs 6 8)) (.int .u8 (hn xs 6 9)) (.int .u8 (hn xs 6 10)) (.int .u8 (hn xs 6 11)) (.int .u16 T)
      have Jb : Below w.heap.size w w' := J2.b
      have hsz' := Jb.size
      rename_i hHeld
      clear hHeld J2 JA JD
      have hT3 : Hid (xs.getD 12 0 * 256 + xs.getD 13 0 = T) := by
        rw [HX2.out, HY2.out]
        exact hTT
      have ow := own_mods hown Z.m (by intro k hk; have := (World.ownsRow.lt hown k hk).1; omega)
      have Jf := Jb.trans (Z.m.toBelow (B := w.heap.size) (fun i hi => by omega) hsz')
      have Zr := Z.r
      clear Z hown hgrow hr hz
      generalize (((((((((((((w'.setCell ⟨w.heap.size, 0, none⟩ (.int .u8 (hn xs 6 0))).setCell ⟨w.heap.size, 1, none⟩ (.int .u8 (hn xs 6 1))).setCell ⟨w.heap.size, 2, none⟩ (.int .u8 (hn xs 6 2))).setCell ⟨w.heap.size, 3, none⟩ (.int .u8 (hn xs 6 3))).setCell ⟨w.heap.size, 4, none⟩ (.int .u8 (hn xs 6 4))).setCell ⟨w.heap.size, 5, none⟩ (.int .u8 (hn xs 6 5))).setCell ⟨w.heap.size, 6, none⟩ (.int .u8 (hn xs 6 6))).setCell ⟨w.heap.size, 7, none⟩ (.int .u8 (hn xs 6 7))).setCell ⟨w.heap.size, 8, none⟩ (.int .u8 (hn xs 6 8))).setCell ⟨w.heap.size, 9, none⟩ (.int .u8 (hn xs 6 9))).setCell ⟨w.heap.size, 10, none⟩ (.int .u8 (hn xs 6 10))).setCell ⟨w.heap.size, 11, none⟩ (.int .u8 (hn xs 6 11))).setCell ⟨w.heap.size, 12, none⟩ (.int .u16 T)) = Wf at *
      have q0 := Zr.cell 0
      have q1 := Zr.cell 1
      have q2 := Zr.cell 2
      have q3 := Zr.cell 3
      have q4 := Zr.cell 4
      have q5 := Zr.cell 5
      have q6 := Zr.cell 6
      have q7 := Zr.cell 7
      have q8 := Zr.cell 8
      have q9 := Zr.cell 9
      have q10 := Zr.cell 10
      have q11 := Zr.cell 11
      have q12 := Zr.cell 12
      simp only [List.getElem?_toArray, List.getElem?_cons_zero, List.getElem?_cons_succ] at q0 q1 q2 q3 q4 q5 q6 q7 q8 q9 q10 q11 q12
      go_wp2_with fail
      refine bodyPost_ret (v := .tuple #[.agg (hd xs 6 T), v', .int .i64 0]) (by simp [results, Tryd.results12, go_sem, hd, hv, q0, q1, q2, q3, q4, q5, q6, q7, q8, q9, q10, q11, q12]) rfl ⟨v', ?_, ?_, Jf⟩
      · rw [hT3.out]
      · simp only [Nat.zero_add, List.nil_append] at ow
        exact own_base ow (by omega)
set_option maxHeartbeats 1000000 in
set_option maxRecDepth 100000 in
theorem rread_14 (a : Addr) (xs : List Int) (w : World) (hx : xs.length = 14) (hc : At w a xs) (hb : Bs xs) : Calls Tryd.prog 12 #[.slice (some a) 14 14] w (RdPost xs 14 w) := by
  have HX := Lib.hid hx
  have HC := Lib.hid hc
  have HB := Lib.hid hb
  have hlt := hc.lt (by omega)
  clear hx hc hb
  go_enter Tryd.func12, Tryd.ntmps12
  go_wp2_with fail
  have A0 : RdAt w ((w.alloc (.cells #[.int .u8 0, .int .u8 0, .int .u8 0, .int .u8 0, .int .u8 0, .int .u8 0, .int .u8 0, .int .u8 0, .int .u8 0, .int .u8 0, .int .u8 0, .int .u8 0, .int .u16 0] 31)).alloc (.cells #[.int .u8 0, .int .u8 0, .int .u8 0, .int .u8 0, .int .u8 0, .int .u8 0, .int .u8 0, .int .u8 0, .int .u8 0, .int .u8 0, .int .u8 0, .int .u8 0, .int .u16 0] 31)) w.heap.size xs 0 :=
    ⟨(Blk.new w 31 _).alloc _, Blk.newAt _ _ _ (by simp), ((Below.refl _ _).alloc (Nat.le_refl _) _).alloc (by simp) _, rfl⟩
  generalize ((w.alloc (.cells #[.int .u8 0, .int .u8 0, .int .u8 0, .int .u8 0, .int .u8 0, .int .u8 0, .int .u8 0, .int .u8 0, .int .u8 0, .int .u8 0, .int .u8 0, .int .u8 0, .int .u16 0] 31)).alloc (.cells #[.int .u8 0, .int .u8 0, .int .u8 0, .int .u8 0, .int .u8 0, .int .u8 0, .int .u8 0, .int .u8 0, .int .u8 0, .int .u8 0, .int .u8 0, .int .u8 0, .int .u16 0] 31)) = W0 at *
  go_loopw [6] (fun vi wr => ∃ k : Nat, vi = .int .i64 k ∧ k ≤ 6 ∧ RdAt w wr w.heap.size xs k) (fun vi _ => 6 - (intOf vi).toNat)
  case atStart => exact ⟨0, rfl, Nat.zero_le _, A0⟩
  case round =>
    obtain ⟨k, rfl, hk, A⟩ := hrel
    clear A0
    by_cases hk6 : k < 6
    · have g1 : (k : Int) < 6 := by omega
      have g0 : (0 : Int) ≤ (k : Int) := by omega
      have g2 : (k : Int) < 14 := by omega
      have hw1 : IntKind.i64.wrap (6 + (k : Int)) = 6 + (k : Int) := IntWalk.i64_in _ (by omega)
      have c0 := (HC.out.below A.b hlt) k (by have := HX.out; omega)
      have c1 := (HC.out.below A.b hlt) (6 + k) (by have := HX.out; omega)
      have hstep := hd_step xs k hk6
      have e0 := A.e
      have ce0 := (e0.cell k).trans (hd_cell xs k k (by omega))
      have ce1 := (e0.cell (6 + k)).trans (hd_cell xs k (6 + k) (by omega))
      have f0 := e0.frozen k
      obtain ⟨X, hX⟩ : ∃ X, xs.getD k 0 = X := ⟨_, rfl⟩
      obtain ⟨Y, hY⟩ : ∃ Y, xs.getD (6 + k) 0 = Y := ⟨_, rfl⟩
      rw [hX] at c0 hstep
      rw [hY] at c1 hstep
      have hne : ∀ i : Nat, (⟨w.heap.size + 1, k, none⟩ : Addr) ≠ a.add i := fun i h => by
        have := congrArg Addr.block h
        rw [add_block] at this
        have h2 : w.heap.size + 1 = a.block := this
        omega
      have c1' : (wr.setCell ⟨w.heap.size + 1, k, none⟩ (.int .u8 X)).cell? (a.add (6 + k)) = some (.int .u8 Y) := (World.cell?_setCell_other _ _ _ _ (hne _)).trans c1
      have ce1' : (wr.setCell ⟨w.heap.size + 1, k, none⟩ (.int .u8 X)).cell? ⟨w.heap.size + 1, 6 + k, none⟩ = some (hv xs k (6 + k)) := (World.cell?_setCell_other _ _ _ _ (by intro h; have := congrArg Addr.off h; have h2 : k = 6 + k := this; omega)).trans ce1
      have f1 := (e0.set_ k (.int .u8 X)).frozen (6 + k)
      have AS : RdAt w ((wr.setCell ⟨w.heap.size + 1, k, none⟩ (.int .u8 X)).setCell ⟨w.heap.size + 1, 6 + k, none⟩ (.int .u8 Y)) w.heap.size xs (k + 1) := by
        refine ⟨(A.r.far (p := ⟨w.heap.size + 1, k, none⟩) (by show w.heap.size ≠ w.heap.size + 1; omega) _).far (p := ⟨w.heap.size + 1, 6 + k, none⟩) (by show w.heap.size ≠ w.heap.size + 1; omega) _, ?_, (A.b.setCell (p := ⟨w.heap.size + 1, k, none⟩) (by show w.heap.size ≤ w.heap.size + 1; omega) _).setCell (p := ⟨w.heap.size + 1, 6 + k, none⟩) (by show w.heap.size ≤ w.heap.size + 1; omega) _, rfl⟩
        rw [← hstep]
        exact (e0.set_ k _).set_ (6 + k) _
      have HS : Hid _ := AS
      unfold hv at ce0 ce1 ce1'
      clear hstep AS A c1 ce1 e0 hX hY hne
      go_wp2_with fail
      go_roundw
      case rel => exact ⟨k + 1, by go_num, by omega, HS.out⟩
      case measure => simp [intOf]; omega
    · obtain rfl : k = 6 := by omega
      have c12 : wr.cell? ⟨a.block, a.off + 12, none⟩ = some (.int .u8 (xs.getD 12 0)) := (HC.out.below A.b hlt) 12 (by have := HX.out; omega)
      have c13 : wr.cell? ⟨a.block, a.off + 13, none⟩ = some (.int .u8 (xs.getD 13 0)) := (HC.out.below A.b hlt) 13 (by have := HX.out; omega)
      obtain ⟨p0, p1⟩ := HB.out 12
      obtain ⟨q0, q1⟩ := HB.out 13
      obtain ⟨X, hX⟩ : ∃ X, xs.getD 12 0 = X := ⟨_, rfl⟩
      obtain ⟨Y, hY⟩ : ∃ Y, xs.getD 13 0 = Y := ⟨_, rfl⟩
      rw [hX] at c12 p0 p1
      rw [hY] at c13 q0 q1
      have e0 := A.e
      have ce : wr.cell? ⟨w.heap.size + 1, 12, none⟩ = some (.int .u16 0) := e0.cell 12
      have fe := e0.frozen 12
      have hne : ∀ i : Nat, (⟨w.heap.size + 1, 12, none⟩ : Addr) ≠ ⟨a.block, i, none⟩ := fun i h => by
        have h2 : w.heap.size + 1 = a.block := congrArg Addr.block h
        omega
      have HX2 := Lib.hid hX
      have HY2 := Lib.hid hY
      clear hX hY e0
      go_wp2_with fail
      go_region_held3 (fun W => W.cell? ⟨a.block, a.off + 12, none⟩ = some (.int .u8 X) ∧ W.cell? ⟨a.block, a.off + 13, none⟩ = some (.int .u8 Y))
        (first | (exact ⟨c12, c13⟩) | (exact ⟨(World.cell?_setCell_other _ _ _ _ (hne _)).trans c12, (World.cell?_setCell_other _ _ _ _ (hne _)).trans c13⟩)) (fail)
      go_wp2_with fail
      have hT : IntKind.u16.wrap (IntKind.u16.wrap (IntKind.u16.wrap X * 256) + IntKind.u16.wrap Y) = X * 256 + Y := by
        simp only [IntKind.wrap_u16]
        omega
      rw [hT]
      obtain ⟨T, hTT⟩ : ∃ T, X * 256 + Y = T := ⟨_, rfl⟩
      rw [hTT]
      have J : RdJ w (wr.setCell ⟨w.heap.size + 1, 12, none⟩ (.int .u16 T)) a xs T w.heap.size := by
        refine ⟨⟨_, A.r.far (p := ⟨w.heap.size + 1, 12, none⟩) (by show w.heap.size ≠ w.heap.size + 1; omega) _, rfl⟩, ?_, fun i hi => ?_, A.b.setCell (p := ⟨w.heap.size + 1, 12, none⟩) (by show w.heap.size ≤ w.heap.size + 1; omega) _, rfl, hlt⟩
        · have hh : (hd xs 6 0).setIfInBounds 12 (.int .u16 T) = hd xs 6 T := by simp [hd]
          rw [← hh]
          exact A.e.set_ 12 _
        · refine (World.cell?_setCell_other _ _ _ _ ?_).trans (HC.out.below A.b hlt i hi)
          intro h
          have := congrArg Addr.block h
          rw [add_block] at this
          have h2 : w.heap.size + 1 = a.block := this
          omega
      have JD := J.drew
      have hsz : w.heap.size + 2 ≤ ((wr.setCell ⟨w.heap.size + 1, 12, none⟩ (.int .u16 T)).drew).heap.size := JD.e.lt
      generalize ((wr.setCell ⟨w.heap.size + 1, 12, none⟩ (.int .u16 T)).drew) = W1 at *
      have hW1 : w.heap.size + 1 < W1.heap.size := hsz
      have HA : Hid _ := A
      clear A J c12 c13 ce fe hne hT
      have HNews := fun W (h : At W a xs) => news14 h
      have HNews := Lib.hid HNews
      have JA : RdJ w (W1.alloc (.cells #[] 5)).drew a xs T w.heap.size := RdJ.drew (RdJ.alloc JD _)
      go_region_held3 (fun W => RdJ w W a xs T w.heap.size ∧ (W.cell? ⟨w.heap.size + 1, 0, none⟩ = some (.int .u8 (hn xs 6 0)) ∧ W.cell? ⟨w.heap.size + 1, 1, none⟩ = some (.int .u8 (hn xs 6 1)) ∧ W.cell? ⟨w.heap.size + 1, 2, none⟩ = some (.int .u8 (hn xs 6 2)) ∧ W.cell? ⟨w.heap.size + 1, 3, none⟩ = some (.int .u8 (hn xs 6 3)) ∧ W.cell? ⟨w.heap.size + 1, 4, none⟩ = some (.int .u8 (hn xs 6 4)) ∧ W.cell? ⟨w.heap.size + 1, 5, none⟩ = some (.int .u8 (hn xs 6 5)) ∧ W.cell? ⟨w.heap.size + 1, 6, none⟩ = some (.int .u8 (hn xs 6 6)) ∧ W.cell? ⟨w.heap.size + 1, 7, none⟩ = some (.int .u8 (hn xs 6 7)) ∧ W.cell? ⟨w.heap.size + 1, 8, none⟩ = some (.int .u8 (hn xs 6 8)) ∧ W.cell? ⟨w.heap.size + 1, 9, none⟩ = some (.int .u8 (hn xs 6 9)) ∧ W.cell? ⟨w.heap.size + 1, 10, none⟩ = some (.int .u8 (hn xs 6 10)) ∧ W.cell? ⟨w.heap.size + 1, 11, none⟩ = some (.int .u8 (hn xs 6 11)) ∧ W.cell? ⟨w.heap.size + 1, 12, none⟩ = some (.int .u16 T)) ∧ (W.frozen? ⟨w.heap.size, 0, none⟩ = false ∧ W.frozen? ⟨w.heap.size, 1, none⟩ = false ∧ W.frozen? ⟨w.heap.size, 2, none⟩ = false ∧ W.frozen? ⟨w.heap.size, 3, none⟩ = false ∧ W.frozen? ⟨w.heap.size, 4, none⟩ = false ∧ W.frozen? ⟨w.heap.size, 5, none⟩ = false ∧ W.frozen? ⟨w.heap.size, 6, none⟩ = false ∧ W.frozen? ⟨w.heap.size, 7, none⟩ = false ∧ W.frozen? ⟨w.heap.size, 8, none⟩ = false ∧ W.frozen? ⟨w.heap.size, 9, none⟩ = false ∧ W.frozen? ⟨w.heap.size, 10, none⟩ = false ∧ W.frozen? ⟨w.heap.size, 11, none⟩ = false ∧ W.frozen? ⟨w.heap.size, 12, none⟩ = false) ∧ (W.cell? ⟨w.heap.size, 0, none⟩ = some (cellAt W w.heap.size 0) ∧ W.cell? ⟨w.heap.size, 1, none⟩ = some (cellAt W w.heap.size 1) ∧ W.cell? ⟨w.heap.size, 2, none⟩ = some (cellAt W w.heap.size 2) ∧ W.cell? ⟨w.heap.size, 3, none⟩ = some (cellAt W w.heap.size 3) ∧ W.cell? ⟨w.heap.size, 4, none⟩ = some (cellAt W w.heap.size 4) ∧ W.cell? ⟨w.heap.size, 5, none⟩ = some (cellAt W w.heap.size 5) ∧ W.cell? ⟨w.heap.size, 6, none⟩ = some (cellAt W w.heap.size 6) ∧ W.cell? ⟨w.heap.size, 7, none⟩ = some (cellAt W w.heap.size 7) ∧ W.cell? ⟨w.heap.size, 8, none⟩ = some (cellAt W w.heap.size 8) ∧ W.cell? ⟨w.heap.size, 9, none⟩ = some (cellAt W w.heap.size 9) ∧ W.cell? ⟨w.heap.size, 10, none⟩ = some (cellAt W w.heap.size 10) ∧ W.cell? ⟨w.heap.size, 11, none⟩ = some (cellAt W w.heap.size 11) ∧ W.cell? ⟨w.heap.size, 12, none⟩ = some (cellAt W w.heap.size 12)))
        ((refine RdJ.all ?_; first | (with_reducible assumption) | (with_reducible exact RdJ.drew (RdJ.alloc JD _)) | (with_reducible exact RdJ.drew (by assumption)) | (with_reducible exact RdJ.alloc (RdJ.drew (by assumption)) _) | (with_reducible refine RdJ.alloc ?_ _; exact RdJAll.out (by assumption)) | (with_reducible (refine RdJ.set_ ?_ _ _; refine RdJ.set_ ?_ _ _; refine RdJ.set_ ?_ _ _; refine RdJ.set_ ?_ _ _; refine RdJ.set_ ?_ _ _; refine RdJ.set_ ?_ _ _; refine RdJ.set_ ?_ _ _; refine RdJ.set_ ?_ _ _; refine RdJ.set_ ?_ _ _; refine RdJ.set_ ?_ _ _; refine RdJ.set_ ?_ _ _; refine RdJ.set_ ?_ _ _; refine RdJ.set_ ?_ _ _); first | with_reducible assumption | exact RdJAll.out (by assumption) | (rename_i hHeld _; exact hHeld.1))))
        ((refine step_append_own _ (by rfl) _ _ _ (by rfl) (w.heap.size + 2) 5 Tryd.t5 (.int .u8 0) 1 1 Tryd.underlying32 (by kernel_rfl) (by kernel_rfl) rfl rfl rfl (by decide) (.slice (some ⟨W1.drew.heap.size, 0, none⟩) 0 0) 0 [] (by rfl) (World.ownsRow_made W1.drew #[] 0 hsz (Nat.zero_le _) rfl) a 0 0 [] (by rfl) rfl (by intro j u h; cases h) (by intro u hu; cases hu) (by unfold maxLen; omega) (by omega) (by have := hsz; simp; omega) ?_; intro v' w' hown hgrow; have J2 := RdJ.grown JA hgrow hW1))
      obtain ⟨cs, hr, hz⟩ := J2.r
      have Z := st13 hr hz (.int .u8 (hn xs 6 0)) (.int .u8 (hn xs 6 1)) (.int .u8 (hn xs 6 2)) (.int .u8 (hn xs 6 3)) (.int .u8 (hn xs 6 4)) (.int .u8 (hn xs 6 5)) (.int .u8 (hn xs 6 6)) (.int .u8 (hn xs 6 7)) (.int .u8 (hn xs 6 8)) (.int .u8 (hn xs 6 9)) (.int .u8 (hn xs 6 10)) (.int .u8 (hn xs 6 11)) (.int .u16 T)
      have Jb : Below w.heap.size w w' := J2.b
      have hsz' := Jb.size
      rename_i hHeld
      clear hHeld J2 JA JD
      have hT3 : Hid (xs.getD 12 0 * 256 + xs.getD 13 0 = T) := by
        rw [HX2.out, HY2.out]
        exact hTT
      have ow := own_mods hown Z.m (by intro k hk; have := (World.ownsRow.lt hown k hk).1; omega)
      have Jf := Jb.trans (Z.m.toBelow (B := w.heap.size) (fun i hi => by omega) hsz')
      have Zr := Z.r
      clear Z hown hgrow hr hz
      generalize (((((((((((((w'.setCell ⟨w.heap.size, 0, none⟩ (.int .u8 (hn xs 6 0))).setCell ⟨w.heap.size, 1, none⟩ (.int .u8 (hn xs 6 1))).setCell ⟨w.heap.size, 2, none⟩ (.int .u8 (hn xs 6 2))).setCell ⟨w.heap.size, 3, none⟩ (.int .u8 (hn xs 6 3))).setCell ⟨w.heap.size, 4, none⟩ (.int .u8 (hn xs 6 4))).setCell ⟨w.heap.size, 5, none⟩ (.int .u8 (hn xs 6 5))).setCell ⟨w.heap.size, 6, none⟩ (.int .u8 (hn xs 6 6))).setCell ⟨w.heap.size, 7, none⟩ (.int .u8 (hn xs 6 7))).setCell ⟨w.heap.size, 8, none⟩ (.int .u8 (hn xs 6 8))).setCell ⟨w.heap.size, 9, none⟩ (.int .u8 (hn xs 6 9))).setCell ⟨w.heap.size, 10, none⟩ (.int .u8 (hn xs 6 10))).setCell ⟨w.heap.size, 11, none⟩ (.int .u8 (hn xs 6 11))).setCell ⟨w.heap.size, 12, none⟩ (.int .u16 T)) = Wf at *
      have q0 := Zr.cell 0
      have q1 := Zr.cell 1
      have q2 := Zr.cell 2
      have q3 := Zr.cell 3
      have q4 := Zr.cell 4
      have q5 := Zr.cell 5
      have q6 := Zr.cell 6
      have q7 := Zr.cell 7
      have q8 := Zr.cell 8
      have q9 := Zr.cell 9
      have q10 := Zr.cell 10
      have q11 := Zr.cell 11
      have q12 := Zr.cell 12
      simp only [List.getElem?_toArray, List.getElem?_cons_zero, List.getElem?_cons_succ] at q0 q1 q2 q3 q4 q5 q6 q7 q8 q9 q10 q11 q12
      go_wp2_with fail
      refine bodyPost_ret (v := .tuple #[.agg (hd xs 6 T), v', .int .i64 0]) (by simp [results, Tryd.results12, go_sem, hd, hv, q0, q1, q2, q3, q4, q5, q6, q7, q8, q9, q10, q11, q12]) rfl ⟨v', ?_, ?_, Jf⟩
      · rw [hT3.out]
      · have hd14 : xs.drop 14 = [] := List.drop_eq_nil_of_le (by have := HX.out; omega)
        rw [hd14]
        exact own_base ow (by omega)
theorem rread_any (a : Addr) (n c : Nat) (xs : List Int) (w : World) (hx : xs.length = n) (h0 : 14 ≤ n) (h1 : n ≤ 1600) (hc : At w a xs) (hb : Bs xs) (hcap : n ≤ c) : Calls Tryd.prog 12 #[.slice (some a) n c] w (RdPost xs n w) := by
  by_cases h : c = 14
  · obtain rfl : n = 14 := by omega
    subst h
    exact rread_14 a xs w hx hc hb
  · exact rread_big a n c xs w hx h0 h1 hc hb hcap h
end Go.Proofs.YteiaojapolpjaaaDoor
