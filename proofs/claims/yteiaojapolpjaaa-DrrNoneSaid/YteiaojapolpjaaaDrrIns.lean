/- DrrNone: slices.Insert of one element, told by the row that it leaves. -/
import Derived.Test.YteiaojapolpjaaaLay
import Derived.Test.YteiaojapolpjaaaWb
namespace Go.Proofs.Yteiaojapolpjaaa
open Go.RowKit Go.WB Go.Shelf Go.Lib

def OneCells (xs : List Value) : Prop := ∀ x ∈ xs, x.oneCell' = true

/-- What an insert of u at i into the row xs leaves. -/
def Ins (base : Nat) (t : TypeId) (v : Value) (n : Nat) (xs : List Value) (i : Nat) (u : Value) (w : World) (e : Ending) (w' : World) : Prop :=
  ∃ v', e = .returned v' ∧ w'.ownsRow base t 1 v' (n + 1) (xs.take i ++ u :: xs.drop i) ∧ Mods (fun k => v.ownBlock = some k) w w' ∧ (v'.ownBlock = v.ownBlock ∨ ∃ g, v'.ownBlock = some g ∧ w.heap.size ≤ g)

set_option maxHeartbeats 1000000 in
theorem ins_string {base n i vb : Nat} {v u : Value} {xs : List Value} (w : World) (hown : w.ownsRow base 9 1 v n xs) (hi : i ≤ n) (hn : n + 1 ≤ 1000000) (hu : u.oneCell' = true) (hxs : OneCells xs)
    (hvb : Blk w vb 9 #[u]) (hne : v.ownBlock ≠ some vb) (hbase : base ≤ w.heap.size) :
    Calls Try.prog 34 #[v, .int .i64 i, .slice (some ⟨vb, 0, none⟩) 1 1] w (Ins base 9 v n xs i u w) := by
  have q : Try.laysInsS_ren.t 9 = 9 := rfl
  have hvs : ∀ j x, [u][j]? = some x → w.cell? ⟨vb, 0 + j, none⟩ = some x := by
    intro j x hj
    rw [Nat.zero_add, hvb.cell j]
    simpa using hj
  have h1v : ∀ x ∈ [u], x.oneCell' = true := by intro x hx; rw [List.mem_singleton.1 hx]; exact hu
  have hz : (Value.string ⟨#[]⟩).cells.size = 1 := rfl
  rcases own_form hown with ⟨rfl, rfl, rfl⟩ | ⟨g, cap, cur, rfl, hbg, hg, hnc, hcm, hcl, ht, hxl⟩
  · obtain rfl : i = 0 := by omega
    refine (Any2.slices_Insert_string_end_grow Try.laysInsS none 0 0 vb 0 1 1 [] [u] w (by omega) (by omega) (by omega) (by omega) rfl rfl (fun _ => rfl) (fun _ h => by cases h) hvs h1v).mono ?_
    rintro e w' ⟨he, hw⟩
    rw [q] at he hw
    subst he hw
    have hge := grownCap_ge w (0 + 1) 0 9
    exact ⟨_, rfl, own_fresh w.drew hbase hge (grownCap_le_maxLen _ _ _ _ (by unfold maxLen; omega)) (by simp only [Array.size_append, size_zeroCells, hz, List.size_toArray, List.length_append, List.length_cons, List.length_nil]; omega) (by simp), ((Mods.refl _ w).drew).alloc _, .inr ⟨_, rfl, Nat.le_refl _⟩⟩
  · have hgv : g ≠ vb := fun h => hne (by rw [h]; rfl)
    have hcell : ∀ j x, xs[j]? = some x → w.cell? ⟨g, 0 + j, none⟩ = some x := by
      intro j x hj
      have hjl : j < n := by have := (List.getElem?_eq_some_iff.1 hj).1; omega
      rw [Nat.zero_add, hg.cell j, List.getElem?_toArray, ← hj, ← ht, List.getElem?_take_of_lt hjl]
    by_cases hroom : n + 1 ≤ cap
    · by_cases hin : i < n
      · refine (Any2.slices_Insert_string_shift Try.laysInsS g 0 n cap i vb 0 1 1 xs [u] w hin (by omega) hroom (by unfold maxLen at hcm; omega) (Ne.symm hgv) hxl rfl hcell
          (fun j hj => by rw [Nat.zero_add, hg.cell j]; simp; omega) (fun j _ => hg.frozen _) hvs hxs h1v 9 9 1 cap hvb.shape (by rw [hg.shape]; simp [hcl]) (by omega) (hvb.frozen _) (hvb.frozen _)).mono ?_
        rintro e w' ⟨rfl, rfl⟩
        have b1 := Blk.setCells (g := g) (xs.drop i) (0 + (i + 1)) (hg.drew) (by simp; omega)
        have l1 := splice_length cur (0 + (i + 1)) (xs.drop i) (by simp; omega)
        have b2 := Blk.setCells (g := g) [u] (0 + i) b1 (by rw [l1]; simp; omega)
        have l2 := splice_length (splice cur (0 + (i + 1)) (xs.drop i)) (0 + i) [u] (by rw [l1]; simp; omega)
        refine ⟨_, rfl, own_of_blk b2 hbg hroom hcm (by rw [l2, l1]; exact hcl) ?_, Mods.setCells (S := fun k => (Value.slice (some ⟨g, 0, none⟩) n cap).ownBlock = some k) (.inl rfl) _ _ (Mods.setCells (S := fun k => (Value.slice (some ⟨g, 0, none⟩) n cap).ownBlock = some k) (.inl rfl) _ _ (Mods.refl _ w).drew), .inl rfl⟩
        subst ht
        rw [Nat.zero_add, Nat.zero_add]
        exact ins_list cur n i u hi (by omega)
      · obtain rfl : i = n := by omega
        refine (Any2.slices_Insert_string_end_room Try.laysInsS g 0 i cap vb 0 1 1 [u] w (by omega) hroom (by unfold maxLen at hcm; omega) rfl
          (fun j hj => by rw [hg.cell]; simp; omega) (fun j _ => hg.frozen _) hvs h1v).mono ?_
        rintro e w' ⟨rfl, rfl⟩
        have b2 := Blk.setCells (g := g) [u] (0 + i) hg (by simp; omega)
        have l2 := splice_length cur (0 + i) [u] (by simp; omega)
        refine ⟨_, rfl, own_of_blk b2 hbg hroom hcm (by rw [l2]; exact hcl) ?_, Mods.setCells (S := fun k => (Value.slice (some ⟨g, 0, none⟩) i cap).ownBlock = some k) (.inl rfl) _ _ (Mods.refl _ w), .inl rfl⟩
        subst ht
        rw [Nat.zero_add]
        exact ins_end cur i u (by omega)
    · by_cases hin : i < n
      · refine (Any2.slices_Insert_string_grow Try.laysInsS g 0 n cap i vb 0 1 1 xs [u] w hin (by omega) hnc (by omega) (by omega) hxl rfl hcell hvs hxs h1v).mono ?_
        rintro e w' ⟨he, hw⟩
        rw [q] at he hw
        subst he hw
        have hge := grownCap_ge w (n + 1) cap 9
        have b0 := Blk.new w 9 ((xs.take i).toArray ++ Builtin.zeroCells (Value.string ⟨#[]⟩).cells (n + 1 - i) ++ Builtin.zeroCells (Value.string ⟨#[]⟩).cells (grownCap w (n + 1) cap 9 - (n + 1)))
        obtain ⟨cur0, hcur0⟩ : ∃ l : List Value, (xs.take i).toArray ++ Builtin.zeroCells (Value.string ⟨#[]⟩).cells (n + 1 - i) ++ Builtin.zeroCells (Value.string ⟨#[]⟩).cells (grownCap w (n + 1) cap 9 - (n + 1)) = l.toArray := ⟨_, rfl⟩
        have hl0 : cur0.length = grownCap w (n + 1) cap 9 := by
          have := congrArg Array.size hcur0
          simp only [Array.size_append, size_zeroCells, hz, List.size_toArray, List.length_take] at this
          omega
        have ht0 : cur0.take i = xs.take i := by
          have := congrArg Array.toList hcur0
          simp only [Array.toList_append] at this
          rw [← this, List.append_assoc, List.take_append_of_le_length (by simp; omega)]
          rw [List.take_take, Nat.min_self]
        rw [hcur0] at b0
        have b1 := Blk.setCells [u] i b0.drew (by simp; omega)
        have l1 := splice_length cur0 i [u] (by simp; omega)
        have b2 := Blk.setCells (xs.drop i) (i + 1) b1.drew (by rw [l1]; simp; omega)
        have l2 := splice_length (splice cur0 i [u]) (i + 1) (xs.drop i) (by rw [l1]; simp; omega)
        rw [← hcur0] at b2
        exact ⟨_, rfl, own_of_blk b2 hbase hge (grownCap_le_maxLen _ _ _ _ (by unfold maxLen; omega)) (by rw [l2, l1]; exact hl0) (ins_grow cur0 xs n i u hi hxl ht0),
          Mods.setCells (.inr (Nat.le_refl _)) _ _ (Mods.setCells (.inr (Nat.le_refl _)) _ _ ((Mods.refl _ w).alloc _).drew).drew, .inr ⟨_, rfl, Nat.le_refl _⟩⟩
      · obtain rfl : i = n := by omega
        refine (Any2.slices_Insert_string_end_grow Try.laysInsS (some ⟨g, 0, none⟩) i cap vb 0 1 1 xs [u] w (by omega) hnc (by omega) (by omega) hxl rfl (fun h => by cases h)
          (fun a ha j x hj => by injection ha with ha; subst ha; rw [Addr.add_lit]; exact hcell j x hj) hvs h1v).mono ?_
        rintro e w' ⟨he, hw⟩
        rw [q] at he hw
        subst he hw
        have hge := grownCap_ge w (i + 1) cap 9
        refine ⟨_, rfl, own_fresh w.drew hbase hge (grownCap_le_maxLen _ _ _ _ (by unfold maxLen; omega)) (by simp only [Array.size_append, size_zeroCells, hz, List.size_toArray, List.length_append, List.length_cons, List.length_nil]; omega) ?_, ((Mods.refl _ w).drew).alloc _, .inr ⟨_, rfl, Nat.le_refl _⟩⟩
        rw [Array.toList_append, List.take_append_of_le_length (by simp; omega), List.take_of_length_le (by simp; omega), List.take_of_length_le (by omega), List.drop_of_length_le (by omega)]

set_option maxHeartbeats 1000000 in
theorem ins_int {base n i vb : Nat} {v u : Value} {xs : List Value} (w : World) (hown : w.ownsRow base 3 1 v n xs) (hi : i ≤ n) (hn : n + 1 ≤ 1000000) (hu : u.oneCell' = true) (hxs : OneCells xs)
    (hvb : Blk w vb 3 #[u]) (hne : v.ownBlock ≠ some vb) (hbase : base ≤ w.heap.size) :
    Calls Try.prog 35 #[v, .int .i64 i, .slice (some ⟨vb, 0, none⟩) 1 1] w (Ins base 3 v n xs i u w) := by
  have q : Try.laysInsI_ren.t 3 = 3 := rfl
  have hvs : ∀ j x, [u][j]? = some x → w.cell? ⟨vb, 0 + j, none⟩ = some x := by
    intro j x hj
    rw [Nat.zero_add, hvb.cell j]
    simpa using hj
  have h1v : ∀ x ∈ [u], x.oneCell' = true := by intro x hx; rw [List.mem_singleton.1 hx]; exact hu
  have hz : (Value.int .i64 0).cells.size = 1 := rfl
  rcases own_form hown with ⟨rfl, rfl, rfl⟩ | ⟨g, cap, cur, rfl, hbg, hg, hnc, hcm, hcl, ht, hxl⟩
  · obtain rfl : i = 0 := by omega
    refine (Any2.slices_Insert_int_end_grow Try.laysInsI none 0 0 vb 0 1 1 [] [u] w (by omega) (by omega) (by omega) (by omega) rfl rfl (fun _ => rfl) (fun _ h => by cases h) hvs h1v).mono ?_
    rintro e w' ⟨he, hw⟩
    rw [q] at he hw
    subst he hw
    have hge := grownCap_ge w (0 + 1) 0 3
    exact ⟨_, rfl, own_fresh w.drew hbase hge (grownCap_le_maxLen _ _ _ _ (by unfold maxLen; omega)) (by simp only [Array.size_append, size_zeroCells, hz, List.size_toArray, List.length_append, List.length_cons, List.length_nil]; omega) (by simp), ((Mods.refl _ w).drew).alloc _, .inr ⟨_, rfl, Nat.le_refl _⟩⟩
  · have hgv : g ≠ vb := fun h => hne (by rw [h]; rfl)
    have hcell : ∀ j x, xs[j]? = some x → w.cell? ⟨g, 0 + j, none⟩ = some x := by
      intro j x hj
      have hjl : j < n := by have := (List.getElem?_eq_some_iff.1 hj).1; omega
      rw [Nat.zero_add, hg.cell j, List.getElem?_toArray, ← hj, ← ht, List.getElem?_take_of_lt hjl]
    by_cases hroom : n + 1 ≤ cap
    · by_cases hin : i < n
      · refine (Any2.slices_Insert_int_shift Try.laysInsI g 0 n cap i vb 0 1 1 xs [u] w hin (by omega) hroom (by unfold maxLen at hcm; omega) (Ne.symm hgv) hxl rfl hcell
          (fun j hj => by rw [Nat.zero_add, hg.cell j]; simp; omega) (fun j _ => hg.frozen _) hvs hxs h1v 3 3 1 cap hvb.shape (by rw [hg.shape]; simp [hcl]) (by omega) (hvb.frozen _) (hvb.frozen _)).mono ?_
        rintro e w' ⟨rfl, rfl⟩
        have b1 := Blk.setCells (g := g) (xs.drop i) (0 + (i + 1)) (hg.drew) (by simp; omega)
        have l1 := splice_length cur (0 + (i + 1)) (xs.drop i) (by simp; omega)
        have b2 := Blk.setCells (g := g) [u] (0 + i) b1 (by rw [l1]; simp; omega)
        have l2 := splice_length (splice cur (0 + (i + 1)) (xs.drop i)) (0 + i) [u] (by rw [l1]; simp; omega)
        refine ⟨_, rfl, own_of_blk b2 hbg hroom hcm (by rw [l2, l1]; exact hcl) ?_, Mods.setCells (S := fun k => (Value.slice (some ⟨g, 0, none⟩) n cap).ownBlock = some k) (.inl rfl) _ _ (Mods.setCells (S := fun k => (Value.slice (some ⟨g, 0, none⟩) n cap).ownBlock = some k) (.inl rfl) _ _ (Mods.refl _ w).drew), .inl rfl⟩
        subst ht
        rw [Nat.zero_add, Nat.zero_add]
        exact ins_list cur n i u hi (by omega)
      · obtain rfl : i = n := by omega
        refine (Any2.slices_Insert_int_end_room Try.laysInsI g 0 i cap vb 0 1 1 [u] w (by omega) hroom (by unfold maxLen at hcm; omega) rfl
          (fun j hj => by rw [hg.cell]; simp; omega) (fun j _ => hg.frozen _) hvs h1v).mono ?_
        rintro e w' ⟨rfl, rfl⟩
        have b2 := Blk.setCells (g := g) [u] (0 + i) hg (by simp; omega)
        have l2 := splice_length cur (0 + i) [u] (by simp; omega)
        refine ⟨_, rfl, own_of_blk b2 hbg hroom hcm (by rw [l2]; exact hcl) ?_, Mods.setCells (S := fun k => (Value.slice (some ⟨g, 0, none⟩) i cap).ownBlock = some k) (.inl rfl) _ _ (Mods.refl _ w), .inl rfl⟩
        subst ht
        rw [Nat.zero_add]
        exact ins_end cur i u (by omega)
    · by_cases hin : i < n
      · refine (Any2.slices_Insert_int_grow Try.laysInsI g 0 n cap i vb 0 1 1 xs [u] w hin (by omega) hnc (by omega) (by omega) hxl rfl hcell hvs hxs h1v).mono ?_
        rintro e w' ⟨he, hw⟩
        rw [q] at he hw
        subst he hw
        have hge := grownCap_ge w (n + 1) cap 3
        have b0 := Blk.new w 3 ((xs.take i).toArray ++ Builtin.zeroCells (Value.int .i64 0).cells (n + 1 - i) ++ Builtin.zeroCells (Value.int .i64 0).cells (grownCap w (n + 1) cap 3 - (n + 1)))
        obtain ⟨cur0, hcur0⟩ : ∃ l : List Value, (xs.take i).toArray ++ Builtin.zeroCells (Value.int .i64 0).cells (n + 1 - i) ++ Builtin.zeroCells (Value.int .i64 0).cells (grownCap w (n + 1) cap 3 - (n + 1)) = l.toArray := ⟨_, rfl⟩
        have hl0 : cur0.length = grownCap w (n + 1) cap 3 := by
          have := congrArg Array.size hcur0
          simp only [Array.size_append, size_zeroCells, hz, List.size_toArray, List.length_take] at this
          omega
        have ht0 : cur0.take i = xs.take i := by
          have := congrArg Array.toList hcur0
          simp only [Array.toList_append] at this
          rw [← this, List.append_assoc, List.take_append_of_le_length (by simp; omega)]
          rw [List.take_take, Nat.min_self]
        rw [hcur0] at b0
        have b1 := Blk.setCells [u] i b0.drew (by simp; omega)
        have l1 := splice_length cur0 i [u] (by simp; omega)
        have b2 := Blk.setCells (xs.drop i) (i + 1) b1.drew (by rw [l1]; simp; omega)
        have l2 := splice_length (splice cur0 i [u]) (i + 1) (xs.drop i) (by rw [l1]; simp; omega)
        rw [← hcur0] at b2
        exact ⟨_, rfl, own_of_blk b2 hbase hge (grownCap_le_maxLen _ _ _ _ (by unfold maxLen; omega)) (by rw [l2, l1]; exact hl0) (ins_grow cur0 xs n i u hi hxl ht0),
          Mods.setCells (.inr (Nat.le_refl _)) _ _ (Mods.setCells (.inr (Nat.le_refl _)) _ _ ((Mods.refl _ w).alloc _).drew).drew, .inr ⟨_, rfl, Nat.le_refl _⟩⟩
      · obtain rfl : i = n := by omega
        refine (Any2.slices_Insert_int_end_grow Try.laysInsI (some ⟨g, 0, none⟩) i cap vb 0 1 1 xs [u] w (by omega) hnc (by omega) (by omega) hxl rfl (fun h => by cases h)
          (fun a ha j x hj => by injection ha with ha; subst ha; rw [Addr.add_lit]; exact hcell j x hj) hvs h1v).mono ?_
        rintro e w' ⟨he, hw⟩
        rw [q] at he hw
        subst he hw
        have hge := grownCap_ge w (i + 1) cap 3
        refine ⟨_, rfl, own_fresh w.drew hbase hge (grownCap_le_maxLen _ _ _ _ (by unfold maxLen; omega)) (by simp only [Array.size_append, size_zeroCells, hz, List.size_toArray, List.length_append, List.length_cons, List.length_nil]; omega) ?_, ((Mods.refl _ w).drew).alloc _, .inr ⟨_, rfl, Nat.le_refl _⟩⟩
        rw [Array.toList_append, List.take_append_of_le_length (by simp; omega), List.take_of_length_le (by simp; omega), List.take_of_length_le (by omega), List.drop_of_length_le (by omega)]
end Go.Proofs.Yteiaojapolpjaaa
