/- Ether, part 15: ether.Write, walked. -/
import Derived.Test.YteiaojapolpjaaaDoorEthN
import Derived.Laws.AppendOwnNone
namespace Go.Proofs.YteiaojapolpjaaaDoor
open Go.RowKit Go.WB

/-- A slice of bytes that came in reads as xs. -/
def Pay (W : World) (o : Option Addr) (xs : List Int) : Prop := match o with
  | none => xs = []
  | some a => At W a xs
/-- What a Write keeps. -/
structure WrS (w0 W : World) (N : Nat) (h : Array Value) (o : Option Addr) (xs : List Int) : Prop where
  r : Blk W N 31 h
  p : Pay W o xs
  b : Below w0.heap.size w0 W
  n : w0.heap.size = N
  lt : ∀ a, o = some a → 0 < xs.length → a.block < N
section
variable {w0 W W' : World} {N : Nat} {h : Array Value} {o : Option Addr} {xs : List Int}
theorem Pay.below {B : Nat} (hp : Pay W o xs) (hb : Below B W W') (hB : ∀ a, o = some a → 0 < xs.length → a.block < B) : Pay W' o xs := by
  cases o with
  | none => exact hp
  | some a => exact fun i hi => (hb.cell (p := a.add i) (by rw [add_block]; exact hB a rfl (by omega))).trans (hp i hi)
theorem WrS.drew (s : WrS w0 W N h o xs) : WrS w0 W.drew N h o xs := ⟨s.r, s.p, below_drewN s.b 1, s.n, s.lt⟩
theorem WrS.below (s : WrS w0 W N h o xs) (hb : Below W.heap.size W W') : WrS w0 W' N h o xs :=
  ⟨s.r.below hb s.r.lt, s.p.below hb (fun a ha h0 => Nat.lt_of_lt_of_le (s.n ▸ s.lt a ha h0) s.b.size), s.b.trans (hb.mono s.b.size), s.n, s.lt⟩
theorem WrS.alloc (s : WrS w0 W N h o xs) (ob : Obj) : WrS w0 (W.alloc ob) N h o xs := s.below ((Below.refl _ _).alloc (Nat.le_refl _) ob)
theorem WrS.grown {row : Option Nat} (s : WrS w0 W N h o xs) (hg : W.grownBy W' row) (hr : ∀ k, row = some k → N < k) : WrS w0 W' N h o xs := by
  have hb : Below (N + 1) W W' := (Below.refl _ W).grown hg s.r.lt (fun k hk => hr k hk)
  exact ⟨s.r.below hb (by omega), s.p.below hb (fun a ha h0 => by have := s.lt a ha h0; omega), s.b.trans (hb.mono (by have := s.n; omega)), s.n, s.lt⟩
end
theorem news_blk {W : World} {N : Nat} {H : Array Value} (hb : Blk W N 31 H) {H2 : Array Value} (e : H = H2) (k : Nat) (l : List Value) (hl : ∀ j u, l[j]? = some u → H2[k + j]? = some u) : ∀ j u, l[j]? = some u → W.cell? ((⟨N, k, none⟩ : Addr).add j) = some u := by
  intro j u hj
  subst e
  have e2 : (⟨N, k, none⟩ : Addr).add j = ⟨N, k + j, none⟩ := by
    unfold Addr.add
    split
    · subst_vars; rfl
    · rfl
  rw [e2, hb.cell]
  exact hl j u hj
theorem two_new (w : World) (x y : Value) : ∀ j u, ([x, y] : List Value)[j]? = some u → (w.alloc (.cells #[x, y] 5)).cell? ((⟨w.heap.size, 0, none⟩ : Addr).add j) = some u := by
  intro j u hj
  have e2 : (⟨w.heap.size, 0, none⟩ : Addr).add j = ⟨w.heap.size, j, none⟩ := by
    unfold Addr.add
    split
    · subst_vars; rfl
    · simp
  rw [e2, (Blk.new w 5 #[x, y]).cell]
  simpa using hj
theorem At.news {W : World} {a : Addr} {xs : List Int} (h : At W a xs) : ∀ j u, (xs.map (Value.int .u8))[j]? = some u → W.cell? (a.add j) = some u := by
  intro j u hj
  rw [List.getElem?_map] at hj
  obtain ⟨x, hx, rfl⟩ := Option.map_eq_some_iff.1 hj
  rw [h j (List.getElem?_eq_some_iff.1 hx).1, List.getD_eq_getElem?_getD, hx]
  rfl
theorem six_of (l : List Value) (H2 : Array Value) (k : Nat) (hl : ∀ j, j < l.length → H2[k + j]? = l[j]?) : ∀ j u, l[j]? = some u → H2[k + j]? = some u := by
  intro j u hj
  have := (List.getElem?_eq_some_iff.1 hj).1
  rw [hl j this]
  exact hj
theorem lt6 {P : Nat → Prop} (h0 : P 0) (h1 : P 1) (h2 : P 2) (h3 : P 3) (h4 : P 4) (h5 : P 5) : ∀ j, j < 6 → P j := by
  intro j hj
  match j, hj with
  | 0, _ => exact h0
  | 1, _ => exact h1
  | 2, _ => exact h2
  | 3, _ => exact h3
  | 4, _ => exact h4
  | 5, _ => exact h5
/-- The bytes of a frame's head. -/
def hb14 (d0 d1 d2 d3 d4 d5 d6 d7 d8 d9 d10 d11 t : Int) : List Int := [d0, d1, d2, d3, d4, d5, d6, d7, d8, d9, d10, d11, t / 256, t % 256]
/-- What both Writes hand back. -/
def WrPost (d0 d1 d2 d3 d4 d5 d6 d7 d8 d9 d10 d11 t : Int) (xs : List Int) (n : Nat) (w : World) (e : Ending) (w' : World) : Prop :=
  ∃ v', e = .returned (.tuple #[v', .int .i64 0]) ∧ w'.ownsRow w.heap.size 5 1 v' (14 + n) ((hb14 d0 d1 d2 d3 d4 d5 d6 d7 d8 d9 d10 d11 t ++ xs).map (Value.int .u8)) ∧ Below w.heap.size w w'

set_option maxHeartbeats 1000000 in
set_option maxRecDepth 100000 in
theorem write_long (d0 d1 d2 d3 d4 d5 d6 d7 d8 d9 d10 d11 t : Int) (o : Option Addr) (n c : Nat) (w : World) (h1 : 1646 < n) : Calls Tryd.prog 13 #[.agg #[.int .u8 d0, .int .u8 d1, .int .u8 d2, .int .u8 d3, .int .u8 d4, .int .u8 d5, .int .u8 d6, .int .u8 d7, .int .u8 d8, .int .u8 d9, .int .u8 d10, .int .u8 d11, .int .u16 t], .slice o n c] w fun e w' => e = .returned (.tuple #[.slice none 0 0, .int .i64 3]) ∧ Below w.heap.size w w' := by
  have b0 : (1646 : Int) < (n : Int) := by omega
  go_enter Tryd.func13, Tryd.ntmps13
  go_wp2_with fail
  refine bodyPost_ret (v := .tuple #[.slice none 0 0, .int .i64 3]) (by simp [results, Tryd.results13, go_sem]) rfl ⟨rfl, (Below.refl _ _).alloc (Nat.le_refl _) _⟩
set_option maxHeartbeats 1000000 in
set_option maxRecDepth 100000 in
theorem write_some (d0 d1 d2 d3 d4 d5 d6 d7 d8 d9 d10 d11 t : Int) (ht0 : 0 ≤ t) (ht1 : t ≤ 65535) (a : Addr) (n c : Nat) (xs : List Int) (w : World) (hx : xs.length = n) (h1 : n ≤ 1646) (hp : Pay w (some a) xs) : Calls Tryd.prog 13 #[.agg #[.int .u8 d0, .int .u8 d1, .int .u8 d2, .int .u8 d3, .int .u8 d4, .int .u8 d5, .int .u8 d6, .int .u8 d7, .int .u8 d8, .int .u8 d9, .int .u8 d10, .int .u8 d11, .int .u16 t], .slice (some a) n c] w (WrPost d0 d1 d2 d3 d4 d5 d6 d7 d8 d9 d10 d11 t xs n w) := by
  have b0 : (n : Int) ≤ 1646 := by omega
  have HX := Lib.hid hx
  have HP := Lib.hid hp
  have HL : Hid (∀ b, some a = some b → 0 < xs.length → b.block < w.heap.size) := fun b hb h0 => by cases hb; exact At.lt hp h0
  clear hx hp
  go_enter Tryd.func13, Tryd.ntmps13
  go_wp2_with fail
  have S0 : WrS w (w.alloc (.cells #[.int .u8 d0, .int .u8 d1, .int .u8 d2, .int .u8 d3, .int .u8 d4, .int .u8 d5, .int .u8 d6, .int .u8 d7, .int .u8 d8, .int .u8 d9, .int .u8 d10, .int .u8 d11, .int .u16 t] 31)) w.heap.size #[.int .u8 d0, .int .u8 d1, .int .u8 d2, .int .u8 d3, .int .u8 d4, .int .u8 d5, .int .u8 d6, .int .u8 d7, .int .u8 d8, .int .u8 d9, .int .u8 d10, .int .u8 d11, .int .u16 t] (some a) xs := ⟨Blk.new w 31 _, HP.out.below ((Below.refl _ w).alloc (Nat.le_refl _) _) HL.out, (Below.refl _ _).alloc (Nat.le_refl _) _, rfl, HL.out⟩
  generalize (w.alloc (.cells #[.int .u8 d0, .int .u8 d1, .int .u8 d2, .int .u8 d3, .int .u8 d4, .int .u8 d5, .int .u8 d6, .int .u8 d7, .int .u8 d8, .int .u8 d9, .int .u8 d10, .int .u8 d11, .int .u16 t] 31)) = W0 at *
  obtain ⟨H, hH⟩ : ∃ H : Array Value, H = #[.int .u8 d0, .int .u8 d1, .int .u8 d2, .int .u8 d3, .int .u8 d4, .int .u8 d5, .int .u8 d6, .int .u8 d7, .int .u8 d8, .int .u8 d9, .int .u8 d10, .int .u8 d11, .int .u16 t] := ⟨_, rfl⟩
  have HH := Lib.hid hH
  rw [← hH] at S0
  clear hH
  have hW0 : w.heap.size < W0.heap.size := S0.r.lt
  have h0 : 0 ≤ n := by omega
  go_region_held3 (fun W => WrS w W w.heap.size H (some a) xs)
    (first | (with_reducible assumption) | (with_reducible exact WrS.drew (by assumption)) | (with_reducible exact WrS.drew (WrS.alloc (by assumption) _)) | (with_reducible exact WrS.alloc (by assumption) _))
    (first
      | ((refine step_append_own _ (by rfl) _ _ _ (by rfl) (w.heap.size + 1) 5 Tryd.t5 (.int .u8 0) 1 1 Tryd.underlying32 (by kernel_rfl) (by kernel_rfl) rfl rfl rfl (by decide) (.slice (some ⟨W0.drew.heap.size, 0, none⟩) 0 0) 0 [] (by rfl) (World.ownsRow_made W0.drew #[] 0 hW0 (Nat.zero_le _) rfl) ⟨w.heap.size, 0, none⟩ 6 6 [.int .u8 d0, .int .u8 d1, .int .u8 d2, .int .u8 d3, .int .u8 d4, .int .u8 d5] (by rfl) (by rfl) (news_blk (WrS.r (by assumption)) HH.out 0 _ (six_of _ _ _ (lt6 rfl rfl rfl rfl rfl rfl))) (by simp [Value.oneCell']) (by unfold maxLen; omega) (by omega) (by simp; omega) ?_; intro v1 w1 hown1 hgrow1; have S1 := WrS.grown (N := w.heap.size) (by assumption) hgrow1 (by intro k hk; have := Option.some.inj hk; subst this; exact hW0); simp only [Nat.zero_add, List.nil_append] at hown1))
      | ((refine step_append_own _ (by rfl) _ _ _ (by rfl) (w.heap.size + 1) 5 Tryd.t5 (.int .u8 0) 1 1 Tryd.underlying32 (by kernel_rfl) (by kernel_rfl) rfl rfl rfl (by decide) _ 6 [.int .u8 d0, .int .u8 d1, .int .u8 d2, .int .u8 d3, .int .u8 d4, .int .u8 d5] (by rfl) (by assumption) ⟨w.heap.size, 6, none⟩ 6 6 [.int .u8 d6, .int .u8 d7, .int .u8 d8, .int .u8 d9, .int .u8 d10, .int .u8 d11] (by rfl) (by rfl) (news_blk (WrS.r (by assumption)) HH.out 6 _ (six_of _ _ _ (lt6 rfl rfl rfl rfl rfl rfl))) (by simp [Value.oneCell']) (by unfold maxLen; omega) (by omega) (by have := WrS.r S1; have := this.lt; omega) ?_; intro v2 w2 hown2 hgrow2; have S2 := WrS.grown (N := w.heap.size) (by assumption) hgrow2 (by intro k hk; exact (World.ownsRow.lt hown1 k hk).1)))
      )
  have cT : w2.cell? ⟨w.heap.size, 12, none⟩ = some (.int .u16 t) := by
    have := S2.r.cell 12
    rw [HH.out] at this
    exact this
  have HS2 := Lib.hid S2
  have Ho2 := Lib.hid hown2
  have hW2 : w.heap.size < w2.heap.size := S2.r.lt
  clear S1 hown1 hgrow1 S2 hown2 hgrow2 S0
  obtain ⟨t1, ht1'⟩ : ∃ t1, t / 256 = t1 := ⟨_, rfl⟩
  obtain ⟨t2, ht2'⟩ : ∃ t2, t % 256 = t2 := ⟨_, rfl⟩
  have hwz : (w2.alloc (.cells #[.int .u8 t1, .int .u8 t2] 5)).heap.size = w2.heap.size + 1 := by simp
  go_wp2_with (first
    | (at_builtin; refine wpList_append_own _ (by rfl) _ _ 32 (by rfl) (w.heap.size + 1) 5 Tryd.t5 (.int .u8 0) 1 1 Tryd.underlying32 (by kernel_rfl) (by kernel_rfl) rfl rfl rfl (by decide) v2 12 [.int .u8 d0, .int .u8 d1, .int .u8 d2, .int .u8 d3, .int .u8 d4, .int .u8 d5, .int .u8 d6, .int .u8 d7, .int .u8 d8, .int .u8 d9, .int .u8 d10, .int .u8 d11] (by rfl) (Ho2.out.alloc _) ⟨w2.heap.size, 0, none⟩ 2 2 [.int .u8 t1, .int .u8 t2] (by rfl) (by rfl) (two_new _ _ _) (by simp [Value.oneCell']) (by unfold maxLen; omega) (by omega) (by simp; omega) ?_; intro v3 w3 hown3 hgrow3 _; have S3 := WrS.grown (N := w.heap.size) (HS2.out.alloc _) hgrow3 (by intro k hk; exact (World.ownsRow.lt Ho2.out k hk).1); have HS3 := Lib.hid S3; have Ho3 := Lib.hid hown3; have hW3 : w.heap.size < w3.heap.size := S3.r.lt; clear S3 hown3 hgrow3)
    | (at_builtin; refine wpList_append_own _ (by rfl) _ _ 32 (by rfl) (w.heap.size + 1) 5 Tryd.t5 (.int .u8 0) 1 1 Tryd.underlying32 (by kernel_rfl) (by kernel_rfl) rfl rfl rfl (by decide) v3 14 _ (by rfl) Ho3.out a n c (xs.map (Value.int .u8)) (by rfl) (by have := HX.out; simp; omega) (At.news HS3.out.p) (by intro u hu; obtain ⟨x, _, rfl⟩ := List.mem_map.1 hu; rfl) (by unfold maxLen; omega) (by omega) hW3 ?_; intro v4 w4 hown4 hgrow4 _; have S4 := WrS.grown (N := w.heap.size) HS3.out hgrow4 (by intro k hk; exact (World.ownsRow.lt Ho3.out k hk).1)))
  go_ret2
  refine ⟨v4, rfl, ?_, S4.b⟩
  have h4 := own_base (B' := w.heap.size) hown4 (by omega)
  have e : (hb14 d0 d1 d2 d3 d4 d5 d6 d7 d8 d9 d10 d11 t ++ xs).map (Value.int .u8) = ([.int .u8 d0, .int .u8 d1, .int .u8 d2, .int .u8 d3, .int .u8 d4, .int .u8 d5, .int .u8 d6, .int .u8 d7, .int .u8 d8, .int .u8 d9, .int .u8 d10, .int .u8 d11] ++ [.int .u8 t1, .int .u8 t2]) ++ xs.map (Value.int .u8) := by
    subst ht1' ht2'
    simp [hb14]
  rw [e]
  exact h4
set_option maxHeartbeats 1000000 in
set_option maxRecDepth 100000 in
theorem write_none (d0 d1 d2 d3 d4 d5 d6 d7 d8 d9 d10 d11 t : Int) (ht0 : 0 ≤ t) (ht1 : t ≤ 65535) (w : World) : Calls Tryd.prog 13 #[.agg #[.int .u8 d0, .int .u8 d1, .int .u8 d2, .int .u8 d3, .int .u8 d4, .int .u8 d5, .int .u8 d6, .int .u8 d7, .int .u8 d8, .int .u8 d9, .int .u8 d10, .int .u8 d11, .int .u16 t], .slice none 0 0] w (WrPost d0 d1 d2 d3 d4 d5 d6 d7 d8 d9 d10 d11 t [] 0 w) := by
  go_enter Tryd.func13, Tryd.ntmps13
  go_wp2_with fail
  have S0 : WrS w (w.alloc (.cells #[.int .u8 d0, .int .u8 d1, .int .u8 d2, .int .u8 d3, .int .u8 d4, .int .u8 d5, .int .u8 d6, .int .u8 d7, .int .u8 d8, .int .u8 d9, .int .u8 d10, .int .u8 d11, .int .u16 t] 31)) w.heap.size #[.int .u8 d0, .int .u8 d1, .int .u8 d2, .int .u8 d3, .int .u8 d4, .int .u8 d5, .int .u8 d6, .int .u8 d7, .int .u8 d8, .int .u8 d9, .int .u8 d10, .int .u8 d11, .int .u16 t] none [] := ⟨Blk.new w 31 _, rfl, (Below.refl _ _).alloc (Nat.le_refl _) _, rfl, fun _ h _ => by cases h⟩
  generalize (w.alloc (.cells #[.int .u8 d0, .int .u8 d1, .int .u8 d2, .int .u8 d3, .int .u8 d4, .int .u8 d5, .int .u8 d6, .int .u8 d7, .int .u8 d8, .int .u8 d9, .int .u8 d10, .int .u8 d11, .int .u16 t] 31)) = W0 at *
  obtain ⟨H, hH⟩ : ∃ H : Array Value, H = #[.int .u8 d0, .int .u8 d1, .int .u8 d2, .int .u8 d3, .int .u8 d4, .int .u8 d5, .int .u8 d6, .int .u8 d7, .int .u8 d8, .int .u8 d9, .int .u8 d10, .int .u8 d11, .int .u16 t] := ⟨_, rfl⟩
  have HH := Lib.hid hH
  rw [← hH] at S0
  clear hH
  have hW0 : w.heap.size < W0.heap.size := S0.r.lt
  go_region_held3 (fun W => WrS w W w.heap.size H none [])
    (first | (with_reducible assumption) | (with_reducible exact WrS.drew (by assumption)) | (with_reducible exact WrS.drew (WrS.alloc (by assumption) _)) | (with_reducible exact WrS.alloc (by assumption) _))
    (first
      | ((refine step_append_own _ (by rfl) _ _ _ (by rfl) (w.heap.size + 1) 5 Tryd.t5 (.int .u8 0) 1 1 Tryd.underlying32 (by kernel_rfl) (by kernel_rfl) rfl rfl rfl (by decide) (.slice (some ⟨W0.drew.heap.size, 0, none⟩) 0 0) 0 [] (by rfl) (World.ownsRow_made W0.drew #[] 0 hW0 (Nat.zero_le _) rfl) ⟨w.heap.size, 0, none⟩ 6 6 [.int .u8 d0, .int .u8 d1, .int .u8 d2, .int .u8 d3, .int .u8 d4, .int .u8 d5] (by rfl) (by rfl) (news_blk (WrS.r (by assumption)) HH.out 0 _ (six_of _ _ _ (lt6 rfl rfl rfl rfl rfl rfl))) (by simp [Value.oneCell']) (by unfold maxLen; omega) (by omega) (by simp; omega) ?_; intro v1 w1 hown1 hgrow1; have S1 := WrS.grown (N := w.heap.size) (by assumption) hgrow1 (by intro k hk; have := Option.some.inj hk; subst this; exact hW0); simp only [Nat.zero_add, List.nil_append] at hown1))
      | ((refine step_append_own _ (by rfl) _ _ _ (by rfl) (w.heap.size + 1) 5 Tryd.t5 (.int .u8 0) 1 1 Tryd.underlying32 (by kernel_rfl) (by kernel_rfl) rfl rfl rfl (by decide) _ 6 [.int .u8 d0, .int .u8 d1, .int .u8 d2, .int .u8 d3, .int .u8 d4, .int .u8 d5] (by rfl) (by assumption) ⟨w.heap.size, 6, none⟩ 6 6 [.int .u8 d6, .int .u8 d7, .int .u8 d8, .int .u8 d9, .int .u8 d10, .int .u8 d11] (by rfl) (by rfl) (news_blk (WrS.r (by assumption)) HH.out 6 _ (six_of _ _ _ (lt6 rfl rfl rfl rfl rfl rfl))) (by simp [Value.oneCell']) (by unfold maxLen; omega) (by omega) (by have := WrS.r S1; have := this.lt; omega) ?_; intro v2 w2 hown2 hgrow2; have S2 := WrS.grown (N := w.heap.size) (by assumption) hgrow2 (by intro k hk; exact (World.ownsRow.lt hown1 k hk).1)))
      )
  have cT : w2.cell? ⟨w.heap.size, 12, none⟩ = some (.int .u16 t) := by
    have := S2.r.cell 12
    rw [HH.out] at this
    exact this
  have HS2 := Lib.hid S2
  have Ho2 := Lib.hid hown2
  have hW2 : w.heap.size < w2.heap.size := S2.r.lt
  clear S1 hown1 hgrow1 S2 hown2 hgrow2 S0
  obtain ⟨t1, ht1'⟩ : ∃ t1, t / 256 = t1 := ⟨_, rfl⟩
  obtain ⟨t2, ht2'⟩ : ∃ t2, t % 256 = t2 := ⟨_, rfl⟩
  have hwz : (w2.alloc (.cells #[.int .u8 t1, .int .u8 t2] 5)).heap.size = w2.heap.size + 1 := by simp
  go_wp2_with (first
    | (at_builtin; refine wpList_append_own _ (by rfl) _ _ 32 (by rfl) (w.heap.size + 1) 5 Tryd.t5 (.int .u8 0) 1 1 Tryd.underlying32 (by kernel_rfl) (by kernel_rfl) rfl rfl rfl (by decide) v2 12 [.int .u8 d0, .int .u8 d1, .int .u8 d2, .int .u8 d3, .int .u8 d4, .int .u8 d5, .int .u8 d6, .int .u8 d7, .int .u8 d8, .int .u8 d9, .int .u8 d10, .int .u8 d11] (by rfl) (Ho2.out.alloc _) ⟨w2.heap.size, 0, none⟩ 2 2 [.int .u8 t1, .int .u8 t2] (by rfl) (by rfl) (two_new _ _ _) (by simp [Value.oneCell']) (by unfold maxLen; omega) (by omega) (by simp; omega) ?_; intro v3 w3 hown3 hgrow3 _; have S3 := WrS.grown (N := w.heap.size) (HS2.out.alloc _) hgrow3 (by intro k hk; exact (World.ownsRow.lt Ho2.out k hk).1); have HS3 := Lib.hid S3; have Ho3 := Lib.hid hown3; have hW3 : w.heap.size < w3.heap.size := S3.r.lt; clear S3 hown3 hgrow3)
    | (at_builtin; refine wpList_append_own_none (by rfl) _ _ 32 (by rfl) (w.heap.size + 1) 5 Tryd.t5 1 Tryd.underlying32 (by kernel_rfl) v3 14 _ (by rfl) Ho3.out (by rfl) ?_))
  go_ret2
  refine ⟨v3, rfl, ?_, HS3.out.b⟩
  have h4 := own_base (B' := w.heap.size) Ho3.out (by omega)
  have e : (hb14 d0 d1 d2 d3 d4 d5 d6 d7 d8 d9 d10 d11 t ++ []).map (Value.int .u8) = ([.int .u8 d0, .int .u8 d1, .int .u8 d2, .int .u8 d3, .int .u8 d4, .int .u8 d5, .int .u8 d6, .int .u8 d7, .int .u8 d8, .int .u8 d9, .int .u8 d10, .int .u8 d11] ++ [.int .u8 t1, .int .u8 t2]) := by
    subst ht1' ht2'
    simp [hb14]
  rw [e]
  exact h4
theorem write_any (d0 d1 d2 d3 d4 d5 d6 d7 d8 d9 d10 d11 t : Int) (ht0 : 0 ≤ t) (ht1 : t ≤ 65535) (o : Option Addr) (n c : Nat) (xs : List Int) (w : World) (hx : xs.length = n) (h1 : n ≤ 1646) (hp : Pay w o xs) (hn : o = none → c = 0) : Calls Tryd.prog 13 #[.agg #[.int .u8 d0, .int .u8 d1, .int .u8 d2, .int .u8 d3, .int .u8 d4, .int .u8 d5, .int .u8 d6, .int .u8 d7, .int .u8 d8, .int .u8 d9, .int .u8 d10, .int .u8 d11, .int .u16 t], .slice o n c] w (WrPost d0 d1 d2 d3 d4 d5 d6 d7 d8 d9 d10 d11 t xs n w) := by
  cases o with
  | none =>
    have e : xs = [] := hp
    subst e
    subst hx
    rw [hn rfl]
    exact write_none d0 d1 d2 d3 d4 d5 d6 d7 d8 d9 d10 d11 t ht0 ht1 w
  | some a => exact write_some d0 d1 d2 d3 d4 d5 d6 d7 d8 d9 d10 d11 t ht0 ht1 a n c xs w hx h1 hp
end Go.Proofs.YteiaojapolpjaaaDoor
