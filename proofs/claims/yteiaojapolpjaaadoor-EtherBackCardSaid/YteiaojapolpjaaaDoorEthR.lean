/- Ether, part 17: both Reads and both Writes by one contract each; strings of slices; equal heads. -/
import Derived.Test.YteiaojapolpjaaaDoorEthO
import Derived.Test.YteiaojapolpjaaaDoorEthQ
import Derived.Laws.BytesArg
import Derived.Laws.StructEq
import Derived.Laws.OwnMore
import Derived.ChangeKeysEq
namespace Go.Proofs.YteiaojapolpjaaaDoor
open Go.RowKit Go.WB

def fits (xs : List Int) : Prop := 14 ≤ xs.length ∧ xs.length ≤ 1600
instance (xs : List Int) : Decidable (fits xs) := inferInstanceAs (Decidable (_ ∧ _))
def rh (xs : List Int) (j : Nat) : Int := if fits xs then xs.getD j 0 else 0
def rt (xs : List Int) : Int := if fits xs then xs.getD 12 0 * 256 + xs.getD 13 0 else 0
def rdV (xs : List Int) : Value := .agg #[.int .u8 (rh xs 0), .int .u8 (rh xs 1), .int .u8 (rh xs 2), .int .u8 (rh xs 3), .int .u8 (rh xs 4), .int .u8 (rh xs 5), .int .u8 (rh xs 6), .int .u8 (rh xs 7), .int .u8 (rh xs 8), .int .u8 (rh xs 9), .int .u8 (rh xs 10), .int .u8 (rh xs 11), .int .u16 (rt xs)]
def rdP (xs : List Int) : List Int := if fits xs then xs.drop 14 else []
def rdK (xs : List Int) : Int := if 1600 < xs.length then 3 else if xs.length < 14 then 4 else 0
/-- What both Reads hand back. -/
def ReadPost (xs : List Int) (w : World) (e : Ending) (w' : World) : Prop :=
  ∃ v, e = .returned (.tuple #[rdV xs, v, .int .i64 (rdK xs)]) ∧ w'.ownsRow w.heap.size 5 1 v (rdP xs).length ((rdP xs).map (Value.int .u8)) ∧ Below w.heap.size w w'
theorem rdV_no {xs : List Int} (h : ¬ fits xs) : rdV xs = ethZ := by
  simp only [rdV, rh, rt, if_neg h, ethZ]
theorem rdV_yes {xs : List Int} (h : fits xs) : rdV xs = .agg (hd xs 6 (xs.getD 12 0 * 256 + xs.getD 13 0)) := by
  simp only [rdV, rh, rt, if_pos h, hd, hv, hn, Nat.reduceMod, Nat.reduceLT, if_true]
theorem ReadPost.no {xs : List Int} {w w' : World} {e : Ending} {k : Int} (h : ¬ fits xs) (hk : rdK xs = k) (he : e = .returned (.tuple #[ethZ, .slice none 0 0, .int .i64 k])) (hb : Below w.heap.size w w') : ReadPost xs w e w' := by
  refine ⟨.slice none 0 0, by rw [rdV_no h, hk]; exact he, ?_, hb⟩
  simp only [rdP, if_neg h]
  exact ⟨rfl, .inl ⟨rfl, rfl⟩⟩
theorem ReadPost.yes {xs : List Int} {n : Nat} {w w' : World} {e : Ending} (hx : xs.length = n) (h : fits xs) (hp : RdPost xs n w e w') : ReadPost xs w e w' := by
  obtain ⟨v, he, ho, hb⟩ := hp
  have hk : rdK xs = 0 := by unfold rdK; unfold fits at h; rw [if_neg (by omega), if_neg (by omega)]
  refine ⟨v, by rw [rdV_yes h, hk]; exact he, ?_, hb⟩
  have e2 : rdP xs = xs.drop 14 := by unfold rdP; rw [if_pos h]
  rw [e2, List.length_drop, hx]
  exact ho
theorem pay_some {W : World} {o : Option Addr} {xs : List Int} (hp : Pay W o xs) (h : 0 < xs.length) : ∃ a, o = some a ∧ At W a xs := by
  cases o with
  | none => have e : xs = [] := hp; subst e; simp at h
  | some a => exact ⟨a, rfl, hp⟩
theorem read_all (o : Option Addr) (n c : Nat) (xs : List Int) (w : World) (hx : xs.length = n) (hp : Pay w o xs) (hb : Bs xs) (hc : n ≤ c) : Calls Tryd.prog 11 #[.slice o n c] w (ReadPost xs w) := by
  subst hx
  by_cases h1 : 1600 < xs.length
  · exact (read_long o _ c w h1).mono fun e w' ⟨he, h⟩ => ReadPost.no (by unfold fits; omega) (by unfold rdK; rw [if_pos h1]) he h
  by_cases h2 : xs.length < 14
  · exact (read_short o _ c w h2).mono fun e w' ⟨he, h⟩ => ReadPost.no (by unfold fits; omega) (by unfold rdK; rw [if_neg h1, if_pos h2]) he h
  obtain ⟨a, rfl, ha⟩ := pay_some hp (by omega)
  exact (read_any a _ c xs w rfl (by omega) (by omega) ha hb hc).mono fun e w' h => ReadPost.yes rfl (by unfold fits; omega) h
theorem rread_all (o : Option Addr) (n c : Nat) (xs : List Int) (w : World) (hx : xs.length = n) (hp : Pay w o xs) (hb : Bs xs) (hc : n ≤ c) : Calls Tryd.prog 12 #[.slice o n c] w (ReadPost xs w) := by
  subst hx
  by_cases h1 : 1600 < xs.length
  · exact (rread_long o _ c w h1).mono fun e w' ⟨he, h⟩ => ReadPost.no (by unfold fits; omega) (by unfold rdK; rw [if_pos h1]) he h
  by_cases h2 : xs.length < 14
  · exact (rread_short o _ c w h2).mono fun e w' ⟨he, h⟩ => ReadPost.no (by unfold fits; omega) (by unfold rdK; rw [if_neg h1, if_pos h2]) he h
  obtain ⟨a, rfl, ha⟩ := pay_some hp (by omega)
  exact (rread_any a _ c xs w rfl (by omega) (by omega) ha hb hc).mono fun e w' h => ReadPost.yes rfl (by unfold fits; omega) h

def wrP (d0 d1 d2 d3 d4 d5 d6 d7 d8 d9 d10 d11 t : Int) (xs : List Int) : List Int := if xs.length ≤ 1646 then hb14 d0 d1 d2 d3 d4 d5 d6 d7 d8 d9 d10 d11 t ++ xs else []
def wrK (xs : List Int) : Int := if xs.length ≤ 1646 then 0 else 3
/-- What both Writes hand back. -/
def WritePost (d0 d1 d2 d3 d4 d5 d6 d7 d8 d9 d10 d11 t : Int) (xs : List Int) (w : World) (e : Ending) (w' : World) : Prop :=
  ∃ v, e = .returned (.tuple #[v, .int .i64 (wrK xs)]) ∧ w'.ownsRow w.heap.size 5 1 v (wrP d0 d1 d2 d3 d4 d5 d6 d7 d8 d9 d10 d11 t xs).length ((wrP d0 d1 d2 d3 d4 d5 d6 d7 d8 d9 d10 d11 t xs).map (Value.int .u8)) ∧ Below w.heap.size w w'
theorem WritePost.no {d0 d1 d2 d3 d4 d5 d6 d7 d8 d9 d10 d11 t : Int} {xs : List Int} {w w' : World} {e : Ending} (h : ¬ xs.length ≤ 1646) (he : e = .returned (.tuple #[.slice none 0 0, .int .i64 3])) (hb : Below w.heap.size w w') : WritePost d0 d1 d2 d3 d4 d5 d6 d7 d8 d9 d10 d11 t xs w e w' := by
  refine ⟨.slice none 0 0, by unfold wrK; rw [if_neg h]; exact he, ?_, hb⟩
  simp only [wrP, if_neg h]
  exact ⟨rfl, .inl ⟨rfl, rfl⟩⟩
theorem WritePost.yes {d0 d1 d2 d3 d4 d5 d6 d7 d8 d9 d10 d11 t : Int} {xs : List Int} {n : Nat} {w w' : World} {e : Ending} (hx : xs.length = n) (h : xs.length ≤ 1646) (hp : WrPost d0 d1 d2 d3 d4 d5 d6 d7 d8 d9 d10 d11 t xs n w e w') : WritePost d0 d1 d2 d3 d4 d5 d6 d7 d8 d9 d10 d11 t xs w e w' := by
  obtain ⟨v, he, ho, hb⟩ := hp
  refine ⟨v, by unfold wrK; rw [if_pos h]; exact he, ?_, hb⟩
  have e2 : wrP d0 d1 d2 d3 d4 d5 d6 d7 d8 d9 d10 d11 t xs = hb14 d0 d1 d2 d3 d4 d5 d6 d7 d8 d9 d10 d11 t ++ xs := by unfold wrP; rw [if_pos h]
  have hl : (hb14 d0 d1 d2 d3 d4 d5 d6 d7 d8 d9 d10 d11 t ++ xs).length = 14 + n := by simp [hb14]; omega
  rw [e2, hl]
  exact ho
theorem write_all (d0 d1 d2 d3 d4 d5 d6 d7 d8 d9 d10 d11 t : Int) (ht0 : 0 ≤ t) (ht1 : t ≤ 65535) (o : Option Addr) (n c : Nat) (xs : List Int) (w : World) (hx : xs.length = n) (hp : Pay w o xs) (hn : o = none → c = 0) : Calls Tryd.prog 13 #[.agg #[.int .u8 d0, .int .u8 d1, .int .u8 d2, .int .u8 d3, .int .u8 d4, .int .u8 d5, .int .u8 d6, .int .u8 d7, .int .u8 d8, .int .u8 d9, .int .u8 d10, .int .u8 d11, .int .u16 t], .slice o n c] w (WritePost d0 d1 d2 d3 d4 d5 d6 d7 d8 d9 d10 d11 t xs w) := by
  subst hx
  by_cases h1 : xs.length ≤ 1646
  · exact (write_any d0 d1 d2 d3 d4 d5 d6 d7 d8 d9 d10 d11 t ht0 ht1 o _ c xs w rfl h1 hp hn).mono fun e w' h => WritePost.yes rfl h1 h
  · exact (write_long d0 d1 d2 d3 d4 d5 d6 d7 d8 d9 d10 d11 t o _ c w (by omega)).mono fun e w' ⟨he, h⟩ => .no h1 he h
theorem rwrite_all (d0 d1 d2 d3 d4 d5 d6 d7 d8 d9 d10 d11 t : Int) (ht0 : 0 ≤ t) (ht1 : t ≤ 65535) (o : Option Addr) (n c : Nat) (xs : List Int) (w : World) (hx : xs.length = n) (hb : n ≤ 4000) (hp : Pay w o xs) : Calls Tryd.prog 14 #[.agg #[.int .u8 d0, .int .u8 d1, .int .u8 d2, .int .u8 d3, .int .u8 d4, .int .u8 d5, .int .u8 d6, .int .u8 d7, .int .u8 d8, .int .u8 d9, .int .u8 d10, .int .u8 d11, .int .u16 t], .slice o n c] w (WritePost d0 d1 d2 d3 d4 d5 d6 d7 d8 d9 d10 d11 t xs w) := by
  subst hx
  by_cases h1 : xs.length ≤ 1646
  · exact (rwrite_any d0 d1 d2 d3 d4 d5 d6 d7 d8 d9 d10 d11 t ht0 ht1 o _ c xs w rfl h1 hp).mono fun e w' h => WritePost.yes rfl h1 h
  · exact (rwrite_long d0 d1 d2 d3 d4 d5 d6 d7 d8 d9 d10 d11 t o _ c w (by omega) hb).mono fun e w' ⟨he, h⟩ => .no h1 he h

/-- A slice that is owned, told as a slice that came in. -/
theorem own_pay {W : World} {B n : Nat} {v : Value} {xs : List Int} (h : W.ownsRow B 5 1 v n (xs.map (Value.int .u8))) :
    ∃ o c, v = .slice o n c ∧ Pay W o xs ∧ xs.length = n ∧ n ≤ c ∧ (o = none → c = 0) ∧ (∀ a, o = some a → a.block < W.heap.size ∧ B ≤ a.block ∧ a.off = 0 ∧ v.ownBlock = some a.block) := by
  have hl0 := h.1
  rcases own_form h with ⟨rfl, rfl, h2⟩ | ⟨g, cap, cur, rfl, hB, hg, hn, hc, hs, ht, hl⟩
  · have e : xs = [] := by simpa using h2
    subst e
    exact ⟨none, 0, rfl, rfl, rfl, Nat.le_refl _, fun _ => rfl, fun a h => by cases h⟩
  · refine ⟨some ⟨g, 0, none⟩, cap, rfl, ?_, by simpa using hl, hn, (fun h => by cases h), (fun a ha => by obtain rfl := Option.some.inj ha; exact ⟨hg.lt, hB, rfl, rfl⟩)⟩
    show At W ⟨g, 0, none⟩ xs
    intro i hi
    have e2 : (⟨g, 0, none⟩ : Addr).add i = ⟨g, i, none⟩ := by
      unfold Addr.add
      split
      · subst_vars; rfl
      · simp
    rw [e2, hg.cell]
    have : cur[i]? = some (.int .u8 (xs.getD i 0)) := by
      have h3 : (cur.take n)[i]? = cur[i]? := List.getElem?_take_of_lt (by simp at hl; omega)
      rw [← h3, ht]
      simp [List.getD, List.getElem?_eq_getElem hi]
    simpa using this
/-- string(b). -/
theorem conv_pay {W : World} {o : Option Addr} {n c : Nat} {xs : List Int} (hx : xs.length = n) (hp : Pay W o xs) : (convert 32 9 (.slice o n c)).run Tryd.prog W = .ok (.string (strOfNums xs)) W := by
  cases o with
  | none =>
    have e : xs = [] := hp
    subst e
    exact run_convert_bytes_nil (P := Tryd.prog) W 32 5 Tryd.underlying32 Tryd.underlying5 n c 9 Tryd.underlying9
  | some a =>
    have hl : (loadCells a n).run Tryd.prog W = .ok (xs.map (Value.int .u8)).toArray W := by
      have := run_loadCells_list (P := Tryd.prog) W a (xs.map (Value.int .u8)) (At.news hp)
      simpa [hx] using this
    rw [run_convert_bytes_string W 32 9 5 _ n c Tryd.underlying32 Tryd.underlying5 Tryd.underlying9, run_bytesToString W _ n c xs hl, foldl_push_bytes]
    simp [strOfNums, ByteArray.empty, ByteArray.emptyWithCapacity]
    rfl
theorem eq22_in (a b c d e f : Int) (W : World) : (Op.equalIn 9999 22 (.agg #[.int .u8 a, .int .u8 b, .int .u8 c, .int .u8 d, .int .u8 e, .int .u8 f]) (.agg #[.int .u8 a, .int .u8 b, .int .u8 c, .int .u8 d, .int .u8 e, .int .u8 f])).run Tryd.prog W = .ok true W := by
  have hu : Tryd.prog.underlying 22 = some (.array 6 5) := Tryd.underlying22
  have hi : Tryd.prog.info? 5 = some Tryd.t5 := by kernel_rfl
  have hc : Tryd.prog.cellsOf 5 = 1 := by kernel_rfl
  rw [run_equalIn_array W 9998 _ _ hu hi, hc]
  have hr : List.range 6 = [0, 1, 2, 3, 4, 5] := rfl
  rw [hr]
  simp [Op.eqItems, go_sem, Tryd.underlying5]
theorem eq31 (xs : List Int) (W : World) : (Op.equalIn 10000 31 (rdV xs) (rdV xs)).run Tryd.prog W = .ok true W := by
  have hf : Tryd.prog.underlying 31 = some (.struct (Tryd.prog.fieldsOf 31)) := by kernel_rfl
  unfold rdV
  rw [run_equalIn_struct W 9999 31 _ _ hf (by kernel_rfl)]
  simp [go_sem, Op.eqFields, Tryd.underlying31, Tryd.underlying22, Tryd.underlying29, eq22_in]
end Go.Proofs.YteiaojapolpjaaaDoor
