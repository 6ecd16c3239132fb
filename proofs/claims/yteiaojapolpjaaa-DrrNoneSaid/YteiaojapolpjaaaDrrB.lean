/- DrrNone, part 2: Add. -/
import Derived.Test.YteiaojapolpjaaaDrrA
import Derived.Test.YteiaojapolpjaaaDrrIns
import Derived.Deep.RegionHeld3
import Derived.Deep.DeepCutAuto
import Derived.Deep.DrawnRows
namespace Go.Proofs.Yteiaojapolpjaaa
open Go.RowKit Go.WB
attribute [local go_sem ↓] Go.wp_at_zero Go.wp_at_succ

theorem may_yes (n : Int) (h0 : 1600 ≤ n) (h1 : n ≤ 65536) (w : World) : Calls Try.prog 33 #[.int .i64 n] w fun e w' => e = .returned (.bool true) ∧ w = w' := by
  go_enter Try.func33, Try.ntmps33
  go_wp2
  go_ret
  exact ⟨rfl, rfl⟩

theorem new_any (w : World) : Calls Try.prog 15 #[] w fun e w' => e = .returned (.pointer (some ⟨w.heap.size, 0, none⟩)) ∧
    w' = w.alloc (.cells #[.slice none 0 0, .slice none 0 0, .slice none 0 0, .int .i64 0, .bool true, .bool false] 25) := by
  go_enter Try.func15, Try.ntmps15
  go_wp2
  go_ret
  exact ⟨rfl, rfl⟩

theorem own_pos {base n : Nat} {t : TypeId} {v : Value} {xs : List Value} {w : World} (h : w.ownsRow base t 1 v (n + 1) xs) : ∃ g cap, v = .slice (some ⟨g, 0, none⟩) (n + 1) cap ∧ base ≤ g ∧ g < w.heap.size := by
  rcases own_form h with ⟨_, h, _⟩ | ⟨g, cap, cur, rfl, hb, hg, _⟩
  · cases h
  · exact ⟨g, cap, rfl, hb, hg.lt⟩
theorem own_ne {base n r : Nat} {t t' : TypeId} {v : Value} {xs : List Value} {cs : Array Value} {w : World} (h : w.ownsRow base t 1 v n xs) (hr : Blk w r t' cs) (hne : t ≠ t') : v.ownBlock ≠ some r := by
  rcases own_form h with ⟨rfl, _, _⟩ | ⟨g, cap, cur, rfl, hb, hg, _⟩
  · simp [Value.ownBlock]
  · intro he
    have : g = r := by simpa [Value.ownBlock] using he
    subst this
    exact hg.ne_ hr hne rfl
theorem own_ne2 {base n n' : Nat} {t t' : TypeId} {v v' : Value} {xs xs' : List Value} {w : World} (h : w.ownsRow base t 1 v n xs) (h' : w.ownsRow base t' 1 v' n' xs') (hne : t ≠ t') (g : Nat) (hg : v.ownBlock = some g) : v'.ownBlock ≠ some g := by
  rcases own_form h with ⟨rfl, _, _⟩ | ⟨g1, cap, cur, rfl, hb, hb1, _⟩
  · simp [Value.ownBlock] at hg
  · have : g1 = g := by simpa [Value.ownBlock] using hg
    subst this
    exact own_ne h' hb1 (Ne.symm hne)

/-- What an insert leaves, the new slice written out. -/
def InsAt (B : Nat) (t : TypeId) (v : Value) (n : Nat) (xs : List Value) (i : Nat) (u : Value) (w : World) (e : Ending) (w' : World) : Prop :=
  ∃ g cap, e = .returned (.slice (some ⟨g, 0, none⟩) (n + 1) cap) ∧ w'.ownsRow B t 1 (.slice (some ⟨g, 0, none⟩) (n + 1) cap) (n + 1) (xs.take i ++ u :: xs.drop i) ∧ Mods (fun k => v.ownBlock = some k) w w' ∧
    (v.ownBlock = some g ∨ w.heap.size ≤ g) ∧ B ≤ g ∧ g < w'.heap.size
theorem Ins.at_ {B n i : Nat} {t : TypeId} {v u : Value} {xs : List Value} {w w' : World} {e : Ending} (h : Ins B t v n xs i u w e w') : InsAt B t v n xs i u w e w' := by
  obtain ⟨v', rfl, own, m, hv⟩ := h
  obtain ⟨g, cap, rfl, hB, hg⟩ := own_pos own
  refine ⟨g, cap, rfl, own, m, ?_, hB, hg⟩
  rcases hv with hv | ⟨g', hg', hle⟩
  · exact .inl (by rw [← hv]; rfl)
  · have : g = g' := by simpa [Value.ownBlock] using hg'
    exact .inr (by omega)

/-- A round at block r: its keys K, quantums Q, deficits D; the turn; whether it is begun; all its blocks from B on. -/
def Rnd (B : Nat) (w : World) (r : Nat) (n : Nat) (K Q D : List Value) (t : Int) (bg : Bool) : Prop :=
  ∃ ka kc qa qc da dc, B ≤ r ∧ Blk w r 25 #[.slice ka n kc, .slice qa n qc, .slice da n dc, .int .i64 t, .bool true, .bool bg] ∧ w.ownsRow B 9 1 (.slice ka n kc) n K ∧ w.ownsRow B 3 1 (.slice qa n qc) n Q ∧ w.ownsRow B 3 1 (.slice da n dc) n D ∧
    (∀ g, (Value.slice qa n qc).ownBlock = some g → (Value.slice da n dc).ownBlock ≠ some g)

/-- A search of a key among K that comes to i. -/
def Finds (B n : Nat) (K : List Value) (k : ByteArray) (i : Nat) (f : Bool) : Prop := ∀ a c W, W.ownsRow B 9 1 (.slice a n c) n K → Calls Try.prog 32 #[.slice a n c, .string k] W fun e w' => e = .returned (.tuple #[.int .i64 i, .bool f]) ∧ ∃ q, w' = W.drewN q

theorem Mods.ofSet (r o : Nat) (u : Value) (w : World) : Mods (fun k => k = r) w (w.setCell ⟨r, o, none⟩ u) := (Mods.refl (fun k => k = r) w).setCell (p := ⟨r, o, none⟩) (.inl rfl) u

set_option maxHeartbeats 1000000 in
set_option maxRecDepth 100000 in
/-- The second half of Add: the quantums' and the deficits' inserts, in whatever order, and what they leave. -/
theorem add_close {B r n i g1 cap1 : Nat} {K Q D : List Value} {q0 : Int} {t : Int} {bg : Bool} {qa da : Option Addr} {qc dc : Nat} {w W W1 w3 W2 w4 : World} {g3 cap3 g4 cap4 : Nat}
    (hB : B ≤ r) (hbel : Below B w W)
    (r2 : Blk W r 25 #[.slice (some ⟨g1, 0, none⟩) (n + 1) cap1, .slice qa n qc, .slice da n dc, .int .i64 t, .bool true, .bool bg])
    (own2 : W.ownsRow B 9 1 (.slice (some ⟨g1, 0, none⟩) (n + 1) cap1) (n + 1) K)
    (oq : W.ownsRow B 3 1 (.slice qa n qc) n Q) (od : W.ownsRow B 3 1 (.slice da n dc) n D)
    (hqd : ∀ g, (Value.slice qa n qc).ownBlock = some g → (Value.slice da n dc).ownBlock ≠ some g)
    (hW1 : Mods (fun _ => False) W W1) (own3 : w3.ownsRow B 3 1 (.slice (some ⟨g3, 0, none⟩) (n + 1) cap3) (n + 1) (Q.take i ++ .int .i64 q0 :: Q.drop i)) (m3 : Mods (fun k => (Value.slice qa n qc).ownBlock = some k) W1 w3)
    (h3 : (Value.slice qa n qc).ownBlock = some g3 ∨ W1.heap.size ≤ g3) (hg3 : g3 < w3.heap.size)
    (hW2 : Mods (fun _ => False) w3 W2) (own4 : w4.ownsRow B 3 1 (.slice (some ⟨g4, 0, none⟩) (n + 1) cap4) (n + 1) (D.take i ++ .int .i64 0 :: D.drop i)) (m4 : Mods (fun k => (Value.slice da n dc).ownBlock = some k) W2 w4)
    (h4 : (Value.slice da n dc).ownBlock = some g4 ∨ W2.heap.size ≤ g4) :
    Below B w ((w4.setCell ⟨r, 1, none⟩ (.slice (some ⟨g3, 0, none⟩) (n + 1) cap3)).setCell ⟨r, 2, none⟩ (.slice (some ⟨g4, 0, none⟩) (n + 1) cap4)) ∧
    Rnd B ((w4.setCell ⟨r, 1, none⟩ (.slice (some ⟨g3, 0, none⟩) (n + 1) cap3)).setCell ⟨r, 2, none⟩ (.slice (some ⟨g4, 0, none⟩) (n + 1) cap4)) r (n + 1) K (Q.take i ++ .int .i64 q0 :: Q.drop i) (D.take i ++ .int .i64 0 :: D.drop i) t bg := by
  have hqr := own_ne oq r2 (by decide)
  have hdr := own_ne od r2 (by decide)
  have hBW : B ≤ W.heap.size := by have := r2.lt; omega
  have hs1 := hW1.size
  have hs2 := m3.size
  have hs3 := hW2.size
  have hs4 := m4.size
  -- the round's block, up to w4
  have b1 := r2.mods hW1 (fun h => h)
  have b2 := b1.mods m3 hqr
  have b3 := b2.mods hW2 (fun h => h)
  have b4 := b3.mods m4 hdr
  have b5 := (b4.set_ 1 (.slice (some ⟨g3, 0, none⟩) (n + 1) cap3)).set_ 2 (.slice (some ⟨g4, 0, none⟩) (n + 1) cap4)
  -- the keys' row
  have k1 := own_mods own2 hW1 (fun _ _ h => h)
  have k2 := own_mods k1 m3 (fun g hg h => own_ne2 own2 oq (by decide) g hg h)
  have k3 := own_mods k2 hW2 (fun _ _ h => h)
  have k4 := own_mods k3 m4 (fun g hg h => own_ne2 own2 od (by decide) g hg h)
  -- the quantums' row
  have hg3d : (Value.slice da n dc).ownBlock ≠ some g3 := by
    rcases h3 with h3 | h3
    · exact hqd g3 h3
    · intro h
      have := (World.ownsRow.lt od g3 h).2
      omega
  have q3 := own_mods own3 hW2 (fun _ _ h => h)
  have q4 := own_mods q3 m4 (fun g hg h => by
    have : g3 = g := by simpa [Value.ownBlock] using hg
    subst this
    exact hg3d h)
  have hg43 : g4 ≠ g3 := by
    rintro rfl
    rcases h4 with h4 | h4
    · exact hg3d h4
    · omega
  -- the two stores
  have mr : Mods (fun k => k = r) w4 ((w4.setCell ⟨r, 1, none⟩ (.slice (some ⟨g3, 0, none⟩) (n + 1) cap3)).setCell ⟨r, 2, none⟩ (.slice (some ⟨g4, 0, none⟩) (n + 1) cap4)) :=
    (Mods.ofSet r 1 _ w4).setCell (p := ⟨r, 2, none⟩) (.inl rfl) _
  have hk := own_ne k4 b4 (by decide)
  have hq := own_ne q4 b4 (by decide)
  have hd := own_ne own4 b4 (by decide)
  refine ⟨?_, some ⟨g1, 0, none⟩, cap1, some ⟨g3, 0, none⟩, cap3, some ⟨g4, 0, none⟩, cap4, hB, by simpa using b5, own_mods k4 mr (fun g hg h => hk (by rw [hg, h])), own_mods q4 mr (fun g hg h => hq (by rw [hg, h])), own_mods own4 mr (fun g hg h => hd (by rw [hg, h])), ?_⟩
  · refine (hbel.trans ((hW1.toBelow (B := B) (fun _ h => h.elim) hBW).trans ((m3.toBelow (fun g hg => (World.ownsRow.lt oq g hg).1) (by omega)).trans ((hW2.toBelow (fun _ h => h.elim) (by omega)).trans (m4.toBelow (fun g hg => (World.ownsRow.lt od g hg).1) (by omega)))))).trans (mr.toBelow (fun k hk => by omega) (by omega))
  · intro g hg h
    have h1 : g3 = g := by simpa [Value.ownBlock] using hg
    have h2 : g4 = g := by simpa [Value.ownBlock] using h
    exact hg43 (by omega)

end Go.Proofs.Yteiaojapolpjaaa
