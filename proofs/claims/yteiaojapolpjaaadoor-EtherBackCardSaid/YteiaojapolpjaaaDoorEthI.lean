/- Ether, part 9: plain law: an address's text is read as the address. -/
import Derived.Test.YteiaojapolpjaaaDoorEthH
import Derived.Lib.Split
namespace Go.Proofs.YteiaojapolpjaaaDoor
open Go.RowKit Go.WB

theorem splitK_two (h l : UInt8) (r : List UInt8) (k : Nat) (h1 : h ≠ 58) (h2 : l ≠ 58) : Lib.splitK [58] 0 (k + 1) (h :: l :: 58 :: r) = [h, l] :: Lib.splitK [58] 0 k r := by
  have e : Lib.index (h :: l :: 58 :: r) [58] = 2 := by
    rw [Lib.index_one]
    simp [Lib.indexByte, h1, h2]
  rw [Lib.splitK, e]
  simp
theorem hexc_ne (n : Nat) (h : n < 256) : hexc (n / 16) ≠ 58 ∧ hexc (n % 16) ≠ 58 :=
  ⟨(hexc_rd ⟨n / 16, by omega⟩).2.1, (hexc_rd ⟨n % 16, by omega⟩).2.1⟩
theorem vl_two (n : Nat) (h : n < 256) : vl (two n) = n := by
  have d1 := (hexc_rd ⟨n / 16, by omega⟩).2.2
  have d2 := (hexc_rd ⟨n % 16, by omega⟩).2.2
  simp only at d1 d2
  have d1' : dg ((hexc (n / 16)).toNat : Int) = ((n / 16 : Nat) : Int) := d1
  have d2' : dg ((hexc (n % 16)).toNat : Int) = ((n % 16 : Nat) : Int) := d2
  unfold vl
  show (pu 0 [hexc (n / 16), hexc (n % 16)]).1.toNat = n
  rw [pu, d1', if_neg (by omega), if_neg (by omega), pu, d2', if_neg (by omega), if_neg (by omega), pu]
  show ((0 * 16 + ((n / 16 : Nat) : Int)) * 16 + ((n % 16 : Nat) : Int)).toNat = n
  omega
theorem parts_txt (x : Six) (hx : x.ok) : parts (txt x) = [two x.a, two x.b, two x.c, two x.d, two x.e, two x.f] := by
  obtain ⟨h0, h1, h2, h3, h4, h5⟩ := hx
  have r0 := hexc_ne _ h0
  have r1 := hexc_ne _ h1
  have r2 := hexc_ne _ h2
  have r3 := hexc_ne _ h3
  have r4 := hexc_ne _ h4
  have e : (parts (txt x)).map (·.data.toList) = [two x.a, two x.b, two x.c, two x.d, two x.e, two x.f].map (·.data.toList) := by
    unfold parts
    rw [Lib.splitB_data, txt_size, txt_list]
    show Lib.splitK [58] 0 5 _ = _
    rw [splitK_two _ _ _ _ r0.1 r0.2, splitK_two _ _ _ _ r1.1 r1.2, splitK_two _ _ _ _ r2.1 r2.2, splitK_two _ _ _ _ r3.1 r3.2, splitK_two _ _ _ _ r4.1 r4.2]
    rfl
  refine (List.map_inj_right (f := fun (s : ByteArray) => s.data.toList) ?_).1 e
  intro p q h
  apply ByteArray.ext
  exact Array.toList_inj.1 h
theorem six_txt (x : Six) (hx : x.ok) : six (txt x) = x := by
  have hp := parts_txt x hx
  obtain ⟨h0, h1, h2, h3, h4, h5⟩ := hx
  unfold six num part
  rw [hp]
  show (⟨vl (two x.a), vl (two x.b), vl (two x.c), vl (two x.d), vl (two x.e), vl (two x.f)⟩ : Six) = x
  rw [vl_two _ h0, vl_two _ h1, vl_two _ h2, vl_two _ h3, vl_two _ h4, vl_two _ h5]
theorem six_ok (s : ByteArray) : (six s).ok := ⟨num_lt _ _ _, num_lt _ _ _, num_lt _ _ _, num_lt _ _ _, num_lt _ _ _, num_lt _ _ _⟩

/-- What both Parses hand back: the address, if there is one of that text; else nothing. -/
def pv (s : ByteArray) (x : Option Six) : Prop := match x with
  | some x => x.ok ∧ s = txt x
  | none => ∀ x : Six, x.ok → s ≠ txt x
def pr : Option Six → Value
  | some x => .tuple #[.agg x.vals, .int .i64 0]
  | none => .tuple #[.agg #[.int .u8 0, .int .u8 0, .int .u8 0, .int .u8 0, .int .u8 0, .int .u8 0], .int .i64 5]
open Classical in
theorem pv_any (s : ByteArray) : ∃ x, pv s x := by
  by_cases h : ∃ x : Six, x.ok ∧ s = txt x
  · obtain ⟨x, hx⟩ := h
    exact ⟨some x, hx⟩
  · exact ⟨none, fun x hx he => h ⟨x, hx, he⟩⟩
def PPost (x : Option Six) (w : World) (e : Ending) (w' : World) : Prop := e = .returned (pr x) ∧ Below w.heap.size w w'

theorem parse_pv (s : ByteArray) (x : Option Six) (w : World) (hx : pv s x) (hs : s.size ≤ 1000) (hE : Env w) : Calls Tryd.prog 7 #[.string s] w (PPost x w) := by
  refine (parse_any s w hs hE).mono ?_
  rintro e w' ⟨h1, h2, hb⟩
  refine ⟨?_, hb⟩
  match x, hx with
  | some x, hx =>
    have e6 : six s = x := by rw [hx.2]; exact six_txt x hx.1
    rw [e6] at h1
    exact h1 hx.2.symm
  | none, hx => exact h2 (fun h => hx (six s) (six_ok s) h.symm)

set_option maxHeartbeats 1000000 in
set_option maxRecDepth 100000 in
theorem rparse_short (s : ByteArray) (w : World) (hs : s.size ≠ 17) : Calls Tryd.prog 8 #[.string s] w (PPost none w) := by
  have hs0 : ((s.size : Int) != 17) = true := by rw [bne_iff_ne]; omega
  go_enter Tryd.func8, Tryd.ntmps8
  go_wp2_with fail
  refine bodyPost_ret (v := .tuple #[.agg #[.int .u8 0, .int .u8 0, .int .u8 0, .int .u8 0, .int .u8 0, .int .u8 0], .int .i64 5]) (by simp [results, Tryd.results8, go_sem]) rfl ⟨rfl, ?_⟩
  repeat' first
    | exact Below.refl _ _
    | refine Below.setCell ?_ ?_ _
    | refine Below.alloc ?_ ?_ _
    | exact Nat.le_refl _
    | (simp; done)
    | (simp; omega)
theorem rparse_pv (s : ByteArray) (x : Option Six) (w : World) (hx : pv s x) : Calls Tryd.prog 8 #[.string s] w (PPost x w) := by
  by_cases hs : s.size = 17
  · refine (rparse_walk s w hs).mono ?_
    rintro e w' ⟨h1, h2, hb⟩
    refine ⟨?_, hb⟩
    match x, hx with
    | some x, hx =>
      have e6 := txt_rnum x hx.1
      have hg := txt_good x hx.1
      rw [← hx.2] at e6 hg
      rw [h1 hg]
      unfold pr Six.vals rsix
      rw [e6.1, e6.2.1, e6.2.2.1, e6.2.2.2.1, e6.2.2.2.2.1, e6.2.2.2.2.2]
    | none, hx =>
      by_cases hg : ∀ j, j < 6 → good s j
      · exact absurd (good_txt s hs hg) (hx _ (rs_ok s hg))
      · have : ∃ j, j < 6 ∧ ¬ good s j := by
          apply Classical.byContradiction
          intro hn
          exact hg fun j hj => Classical.byContradiction fun hb => hn ⟨j, hj, hb⟩
        exact h2 this
  · match x, hx with
    | some x, hx => exact absurd (by rw [hx.2]; exact txt_size x) hs
    | none, _ => exact rparse_short s w hs
end Go.Proofs.YteiaojapolpjaaaDoor
