/- Words for memory: a block that is known whole; which blocks a step may change; stores of several cells. -/
import Derived.WalkKit
import Derived.WalkSpells
import Derived.WalkLawsBesides
import Derived.Deep.Draws
import Derived.Deep.Upon
import Derived.Lib.Hide
namespace Go.WB
open Go.RowKit

/-- Block g is just the cells cs of element type t, none of them frozen. -/
def Blk (w : World) (g : Nat) (t : TypeId) (cs : Array Value) : Prop := w.heap[g]? = some (.cells cs t (0, 0))

section
variable {w w' : World} {g : Nat} {t : TypeId} {cs : Array Value}
theorem Blk.lt (h : Blk w g t cs) : g < w.heap.size := by
  rcases Nat.lt_or_ge g w.heap.size with hlt | hge
  · exact hlt
  · unfold Blk at h; rw [Array.getElem?_eq_none hge] at h; cases h
theorem Blk.cell (h : Blk w g t cs) (i : Nat) : w.cell? ⟨g, i, none⟩ = cs[i]? := cell_of_row w g i cs t (0, 0) h
theorem Blk.frozen (h : Blk w g t cs) (i : Nat) : w.frozen? ⟨g, i, none⟩ = false := by
  unfold Blk at h
  simp [World.frozen?, h]
theorem Blk.new (w : World) (t : TypeId) (cs : Array Value) : Blk (w.alloc (.cells cs t)) w.heap.size t cs := heap_alloc_new w _
theorem Blk.newAt {g : Nat} (w : World) (t : TypeId) (cs : Array Value) (h : w.heap.size = g) : Blk (w.alloc (.cells cs t)) g t cs := by
  subst h
  exact Blk.new w t cs
theorem Blk.drew (h : Blk w g t cs) : Blk w.drew g t cs := h
theorem Blk.drewN (h : Blk w g t cs) (n : Nat) : Blk (w.drewN n) g t cs := h
theorem Blk.alloc (h : Blk w g t cs) (o : Obj) : Blk (w.alloc o) g t cs := (Below.heap_alloc w o g h.lt).trans h
theorem Blk.set_ (h : Blk w g t cs) (i : Nat) (u : Value) : Blk (w.setCell ⟨g, i, none⟩ u) g t (cs.setIfInBounds i u) := by
  unfold Blk at h ⊢
  simp [World.setCell, Array.getElem?_modify, h]
theorem Blk.far (h : Blk w g t cs) {p : Addr} (hp : g ≠ p.block) (u : Value) : Blk (w.setCell p u) g t cs := (Below.heap_setCell w p u g hp).trans h
theorem Blk.ne_ {g' : Nat} {t' : TypeId} {cs' : Array Value} (h : Blk w g t cs) (h' : Blk w g' t' cs') (hne : t ≠ t') : g ≠ g' := by
  rintro rfl
  unfold Blk at h h'
  rw [h] at h'
  injection h' with h'
  injection h' with _ ht
  exact hne ht
theorem Blk.inj {cs' : Array Value} {t' : TypeId} (h : Blk w g t cs) (h' : Blk w g t' cs') : cs = cs' := by
  unfold Blk at h h'
  rw [h] at h'
  injection h' with h'
  injection h'
theorem Blk.shape (h : Blk w g t cs) : w.shape? g = some (t, cs.size) := by
  unfold Blk at h
  simp [World.shape?, h]
end

/-- Only blocks of S, and new ones, may be other than they were. -/
structure Mods (S : Nat → Prop) (w w' : World) : Prop where
  os : w'.os = w.os
  tape : w'.tape = w.tape
  output : w'.output = w.output
  size : w.heap.size ≤ w'.heap.size
  block : ∀ k, k < w.heap.size → ¬ S k → w'.heap[k]? = w.heap[k]?

section
variable {S T : Nat → Prop} {a b c w w' : World}
theorem Mods.refl (S : Nat → Prop) (w : World) : Mods S w w := ⟨rfl, rfl, rfl, Nat.le_refl _, fun _ _ _ => rfl⟩
theorem Mods.trans (h : Mods S a b) (k : Mods T b c) (hT : ∀ i, T i → S i ∨ a.heap.size ≤ i) : Mods S a c :=
  ⟨k.os.trans h.os, k.tape.trans h.tape, k.output.trans h.output, Nat.le_trans h.size k.size, fun i hi hn =>
    (k.block i (Nat.lt_of_lt_of_le hi h.size) (fun ht => by rcases hT i ht with h1 | h1; exact hn h1; omega)).trans (h.block i hi hn)⟩
theorem Mods.mono (h : Mods S a b) (hs : ∀ i, S i → T i) : Mods T a b := ⟨h.os, h.tape, h.output, h.size, fun i hi hn => h.block i hi (fun hs' => hn (hs i hs'))⟩
theorem Mods.drew (h : Mods S a w) : Mods S a w.drew := ⟨h.os, h.tape, h.output, h.size, h.block⟩
theorem Mods.drewN (h : Mods S a w) (n : Nat) : Mods S a (w.drewN n) := ⟨h.os, h.tape, h.output, h.size, h.block⟩
theorem Mods.alloc (h : Mods S a w) (o : Obj) : Mods S a (w.alloc o) :=
  h.trans (T := fun _ => False) ⟨rfl, rfl, rfl, by simp, fun k hk _ => Below.heap_alloc _ _ _ hk⟩ (fun _ h => h.elim)
theorem Mods.setCell (h : Mods S a w) {p : Addr} (hp : S p.block ∨ a.heap.size ≤ p.block) (u : Value) : Mods S a (w.setCell p u) :=
  h.trans (T := fun k => k = p.block) ⟨rfl, rfl, rfl, by simp [World.setCell], fun k _ hn => Below.heap_setCell _ _ _ _ hn⟩ (fun _ h => h ▸ hp)
theorem Mods.grown {row : Option Nat} (h : Mods S a w) (hg : w.grownBy w' row) (hr : ∀ k, row = some k → S k ∨ a.heap.size ≤ k) : Mods S a w' :=
  h.trans (T := fun k => row = some k) ⟨hg.os, hg.tape, hg.output, hg.size, fun k hk hn => hg.block k hk (fun e => hn e.symm)⟩ hr
theorem Mods.below {B : Nat} (h : Mods S a w) (hb : Below B w w') (hB : a.heap.size ≤ B) : Mods S a w' :=
  h.trans (T := fun k => B ≤ k) ⟨hb.os, hb.tape, hb.output, hb.size, fun k _ hn => hb.block k (by omega)⟩ (fun i hi => Or.inr (by omega))
theorem Mods.toBelow {B : Nat} (h : Mods S a b) (hS : ∀ i, S i → B ≤ i) (hB : B ≤ a.heap.size) : Below B a b :=
  ⟨h.os, h.tape, h.output, h.size, fun k hk => h.block k (by omega) (fun hs => by have := hS k hs; omega)⟩
theorem Mods.none (h : Mods (fun _ => False) a b) : Below a.heap.size a b := h.toBelow (fun _ h => h.elim) (Nat.le_refl _)
theorem Mods.of_below (h : Below a.heap.size a b) : Mods S a b := ⟨h.os, h.tape, h.output, h.size, fun k hk _ => h.block k hk⟩
theorem Mods.setCells {g : Nat} (hp : S g ∨ a.heap.size ≤ g) : ∀ (vs : List Value) (o : Nat) {w : World}, Mods S a w → Mods S a (w.setCells g o vs)
  | [], _, _, h => h
  | v :: r, o, _, h => Mods.setCells hp r (o + 1) (h.setCell (p := ⟨g, o, Option.none⟩) hp v)
theorem Mods.cell (h : Mods S a b) {p : Addr} (hlt : p.block < a.heap.size) (hp : ¬ S p.block) : b.cell? p = a.cell? p := World.cell?_of_block (h.block _ hlt hp)
theorem Mods.frozen (h : Mods S a b) {p : Addr} (hlt : p.block < a.heap.size) (hp : ¬ S p.block) : b.frozen? p = a.frozen? p := World.frozen?_of_block (h.block _ hlt hp)

theorem Blk.mods {g : Nat} {t : TypeId} {cs : Array Value} (h : Blk a g t cs) (hm : Mods S a b) (hg : ¬ S g) : Blk b g t cs := (hm.block g h.lt hg).trans h
theorem Blk.below {B : Nat} {g : Nat} {t : TypeId} {cs : Array Value} (h : Blk a g t cs) (hb : Below B a b) (hg : g < B) : Blk b g t cs := (hb.block g hg).trans h

/-- The cells of a block with some of them stored anew. -/
def splice (cs : List Value) (o : Nat) (vs : List Value) : List Value := cs.take o ++ vs ++ cs.drop (o + vs.length)
theorem splice_length (cs : List Value) (o : Nat) (vs : List Value) (h : o + vs.length ≤ cs.length) : (splice cs o vs).length = cs.length := by
  simp [splice]; omega
theorem splice_cons (cs : List Value) (o : Nat) (v : Value) (r : List Value) (h : o + (r.length + 1) ≤ cs.length) : splice (cs.set o v) (o + 1) r = splice cs o (v :: r) := by
  have h1 : (cs.set o v).take (o + 1) = cs.take o ++ [v] := by
    rw [List.take_set]
    rw [List.take_add_one, List.getElem?_eq_getElem (show o < cs.length by omega)]
    rw [Option.toList_some, List.set_append_right _ _ (by simp; omega)]
    simp [Nat.min_eq_left (show o ≤ cs.length by omega)]
  have h2 : (cs.set o v).drop (o + 1 + r.length) = cs.drop (o + (r.length + 1)) := by
    rw [List.drop_set_of_lt (by omega)]
    congr 1
    omega
  unfold splice
  rw [h1, h2]
  simp [List.append_assoc]

theorem Blk.setCells {g : Nat} {t : TypeId} : ∀ (vs : List Value) (o : Nat) {w : World} {cs : List Value}, Blk w g t cs.toArray → o + vs.length ≤ cs.length → Blk (w.setCells g o vs) g t (splice cs o vs).toArray
  | [], o, w, cs, h, ho => by simpa [World.setCells, splice] using h
  | v :: r, o, w, cs, h, ho => by
    simp only [List.length_cons] at ho
    have h1 := h.set_ o v
    have h2 : cs.toArray.setIfInBounds o v = (cs.set o v).toArray := by simp
    rw [h2] at h1
    have h3 := Blk.setCells r (o + 1) h1 (by simp; omega)
    rw [splice_cons cs o v r (by omega)] at h3
    exact h3
theorem Blk.setCells_far {g : Nat} {t : TypeId} {cs : Array Value} (h : Blk w g t cs) {g' : Nat} (hne : g ≠ g') (o : Nat) (vs : List Value) : Blk (w.setCells g' o vs) g t cs :=
  (World.heap_setCells_other w g' o vs h.lt hne).trans h

/-- The row that a slice value holds, told by its block. -/
theorem own_of_blk {base : Nat} {e : TypeId} {g n cap : Nat} {cur xs : List Value} (h : Blk w g e cur.toArray) (hb : base ≤ g) (hn : n ≤ cap) (hc : cap ≤ maxLen) (hs : cur.length = cap) (ht : cur.take n = xs) :
    w.ownsRow base e 1 (.slice (some ⟨g, 0, Option.none⟩) n cap) n xs :=
  ⟨by rw [← ht]; simp; omega, .inr ⟨g, cap, _, rfl, hb, h, hn, hc, by simpa using hs, by simpa using ht⟩⟩
theorem own_form {base : Nat} {e : TypeId} {v : Value} {n : Nat} {xs : List Value} (h : w.ownsRow base e 1 v n xs) :
    (v = .slice Option.none 0 0 ∧ n = 0 ∧ xs = []) ∨ ∃ g cap cur, v = .slice (some ⟨g, 0, Option.none⟩) n cap ∧ base ≤ g ∧ Blk w g e (List.toArray cur) ∧ n ≤ cap ∧ cap ≤ maxLen ∧ cur.length = cap ∧ cur.take n = xs ∧ xs.length = n := by
  obtain ⟨hl, h⟩ := h
  simp only [Nat.mul_one] at hl h
  rcases h with ⟨rfl, rfl⟩ | ⟨g, cap, cur, rfl, hb, hg, hn, hc, hs, ht⟩
  · exact .inl ⟨rfl, rfl, List.eq_nil_of_length_eq_zero hl⟩
  · exact .inr ⟨g, cap, cur.toList, rfl, hb, by unfold Blk; simpa using hg, hn, hc, by simpa using hs, ht, hl⟩
theorem own_mods {base size : Nat} {e : TypeId} {v : Value} {n : Nat} {xs : List Value} (h : a.ownsRow base e size v n xs) (hm : Mods S a b) (hv : ∀ k, v.ownBlock = some k → ¬ S k) : b.ownsRow base e size v n xs := by
  obtain ⟨hl, h⟩ := h
  refine ⟨hl, ?_⟩
  rcases h with ⟨rfl, rfl⟩ | ⟨g, cap, cur, rfl, hb, hg, hn, hc, hs, ht⟩
  · exact .inl ⟨rfl, rfl⟩
  · exact .inr ⟨g, cap, cur, rfl, hb, (Blk.mods hg hm (hv g rfl)), hn, hc, hs, ht⟩
end

theorem own_fresh {base : Nat} {e : TypeId} {n cap : Nat} {arr : Array Value} {xs : List Value} (w : World) (hb : base ≤ w.heap.size) (hn : n ≤ cap) (hc : cap ≤ maxLen) (hs : arr.size = cap) (ht : arr.toList.take n = xs) :
    (w.alloc (.cells arr e)).ownsRow base e 1 (.slice (some ⟨w.heap.size, 0, Option.none⟩) n cap) n xs :=
  own_of_blk (cur := arr.toList) (by simpa using Blk.new w e arr) hb hn hc (by simpa using hs) ht

theorem ins_list (cur : List Value) (n i : Nat) (u : Value) (hi : i ≤ n) (hn : n + 1 ≤ cur.length) :
    (splice (splice cur (i + 1) ((cur.take n).drop i)) i [u]).take (n + 1) = (cur.take n).take i ++ u :: (cur.take n).drop i := by
  have hd : ((cur.take n).drop i).length = n - i := by simp; omega
  have e1 : splice cur (i + 1) ((cur.take n).drop i) = cur.take (i + 1) ++ ((cur.take n).drop i ++ cur.drop (n + 1)) := by
    unfold splice
    rw [hd, List.append_assoc, show i + 1 + (n - i) = n + 1 by omega]
  have e2 : (splice cur (i + 1) ((cur.take n).drop i)).take i = cur.take i := by
    rw [e1, List.take_append_of_le_length (by simp; omega), List.take_take, Nat.min_eq_left (by omega)]
  have e3 : (splice cur (i + 1) ((cur.take n).drop i)).drop (i + 1) = (cur.take n).drop i ++ cur.drop (n + 1) := by
    rw [e1]
    exact List.drop_left' (by simp; omega)
  have e4 : splice (splice cur (i + 1) ((cur.take n).drop i)) i [u] = (cur.take i ++ u :: (cur.take n).drop i) ++ cur.drop (n + 1) := by
    show (splice cur (i + 1) ((cur.take n).drop i)).take i ++ [u] ++ (splice cur (i + 1) ((cur.take n).drop i)).drop (i + 1) = _
    rw [e2, e3]
    simp [List.append_assoc]
  rw [e4, List.take_left' (by simp; omega), List.take_take, Nat.min_eq_left hi]

theorem ins_end (cur : List Value) (n : Nat) (u : Value) (hn : n + 1 ≤ cur.length) : (splice cur n [u]).take (n + 1) = (cur.take n).take n ++ u :: (cur.take n).drop n := by
  have e4 : splice cur n [u] = (cur.take n ++ [u]) ++ cur.drop (n + 1) := rfl
  rw [e4, List.take_left' (by simp; omega), List.take_take, Nat.min_self, List.drop_of_length_le (by simp; omega)]

theorem ins_grow (cur0 xs : List Value) (n i : Nat) (u : Value) (hi : i ≤ n) (hx : xs.length = n) (h0 : cur0.take i = xs.take i) :
    (splice (splice cur0 i [u]) (i + 1) (xs.drop i)).take (n + 1) = xs.take i ++ u :: xs.drop i := by
  have e1 : splice cur0 i [u] = (xs.take i ++ [u]) ++ cur0.drop (i + 1) := by unfold splice; rw [h0]; rfl
  have e2 : (splice cur0 i [u]).take (i + 1) = xs.take i ++ [u] := by rw [e1]; exact List.take_left' (by simp; omega)
  have e3 : splice (splice cur0 i [u]) (i + 1) (xs.drop i) = (xs.take i ++ u :: xs.drop i) ++ (splice cur0 i [u]).drop (i + 1 + (xs.drop i).length) := by
    show (splice cur0 i [u]).take (i + 1) ++ xs.drop i ++ (splice cur0 i [u]).drop (i + 1 + (xs.drop i).length) = _
    rw [e2]
    simp [List.append_assoc]
  rw [e3, List.take_left' (by simp; omega)]
end Go.WB
