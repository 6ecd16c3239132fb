/- Ether, part 12: what a row's hypotheses give the walks: the package-level variables; an array of six bytes, opened and shut; the wrap. -/
import Derived.Test.YteiaojapolpjaaaDoorEthB
import Derived.Test.YteiaojapolpjaaaDoorRows
import Derived.WalkKit
import Derived.ProofKit
import Derived.OpenShut
import Derived.LaidMore
import Derived.Lay
import Derived.Lib.LaidU8
import Derived.Stop.LaidErr
import Derived.SevenTiedAt
import Derived.Stop.Joined
import Derived.Handed
namespace Go.Proofs.YteiaojapolpjaaaDoor
open Go.ChangeShapes Go.WideShapes Go.ChangeAt Go.RowKit Go.WB

theorem own : ownKnob Tryd.prog.godebug = none := by kernel_rfl
theorem star : "*" ++ "errors.errorString" = "*errors.errorString" := by decide
theorem row84 (u : TypeId) (h : Tryd.prog.typeName? 3 u = some "*errors.errorString") : u = 84 :=
  typeName_ptr_named (nm := "errors.errorString") (by rw [star]; kernel_rfl) (by kernel_rfl) (by decide) u (by rw [star]; exact h)
theorem tz_cell {W : World} (h : Lib.VarReads Tryd.prog W "math/bits.deBruijn64tab" Rows.laid_math_bits_deBruijn64tab) : W.cell? ⟨7, 15, none⟩ = some (.int .u8 4) ∧ 7 < W.heap.size := by
  obtain ⟨g, t, cs, fuel, p, hg, ht, hv, hd⟩ := h
  obtain rfl := Option.some.inj ((show Tryd.prog.globalNamed "math/bits.deBruijn64tab" = some 7 by kernel_rfl).symm.trans hg)
  obtain rfl := Option.some.inj ((show (Tryd.prog.globals[7]?).map (·.type) = some 96 by kernel_rfl).symm.trans ht)
  obtain ⟨xs, m, _, ex, _, hl, hel⟩ := DataW.trod_array Tryd.underlying96 hd
  have c5 : Tryd.prog.cellsOf 5 = 1 := by kernel_rfl
  have hE := hel 15 (by omega)
  rw [c5, Nat.mul_one, List.getElem?_eq_getElem (by omega)] at hE
  obtain ⟨z, e1, e2, _⟩ := DataW.trod_int Tryd.underlying5 hE
  have e4 : (xs.map (·.1))[15]? = some (.lit (.int .u8 4)) := by
    have e3 : (xs.map (·.1)) = _ := (DataW.agg.inj (Prod.mk.inj ex).1).symm
    rw [e3]
    rfl
  rw [List.getElem?_map, List.getElem?_eq_getElem (by omega : 15 < xs.length), e2] at e4
  have hz : z = 4 := by
    simp only [Option.map_some, Option.some.injEq, DataW.lit.injEq, Lit.int.injEq, true_and] at e4
    exact e4
  have hc : W.cell? ⟨7, 15, none⟩ = some (.int .u8 4) := by
    rw [World.var?_cell hg hv 15]
    have : cs.toList[15]? = some (.int .u8 z) := by
      have h0 : ((cs.toList.drop 15).take 1)[0]? = some (.int .u8 z) := by rw [e1]; rfl
      simpa using h0
    rw [hz] at this
    simpa using this
  exact ⟨hc, World.block_lt_of_cell? W ⟨7, 15, none⟩ hc⟩

theorem env_of_laid {W : World} (h0 : laidMetH Tryd.prog Rows.etherTextsRow.laid W) (hs : W.ShapedOpen Tryd.prog) : Env W := by
  have h : laidMet Tryd.prog Rows.etherTextsRow.laid W := by
    rwa [MakeChecks.laidMetH_plain _ _ _ (by kernel_rfl)] at h0
  obtain ⟨h1, h2⟩ := tz_cell (Lib.laidMet.reads h (.tail _ (.head _)))
  have hR := h.tail.tail.tail.tail
  obtain ⟨a1, s1, hv1, _⟩ := laid_sentinel (g := 1) hR (by kernel_rfl) (by kernel_rfl) Tryd.underlying44 row84 Tryd.underlying84 Tryd.underlying86 rfl rfl Tryd.underlying9 (by kernel_rfl) (by kernel_rfl)
  obtain ⟨a0, s0, hv0, _⟩ := laid_sentinel (g := 0) hR.tail (by kernel_rfl) (by kernel_rfl) Tryd.underlying44 row84 Tryd.underlying84 Tryd.underlying86 rfl rfl Tryd.underlying9 (by kernel_rfl) (by kernel_rfl)
  exact ⟨h1, h2, hs, ⟨_, _, by simpa using World.var?_cell (g := 0) (by kernel_rfl) hv0 0⟩, ⟨_, _, by simpa using World.var?_cell (g := 1) (by kernel_rfl) hv1 0⟩⟩

section
variable {H : Type} {enc : TypeId × Value → H} {w : World} {base b0 : Nat} {sp : Nat → Bool} {held : Bool}
theorem u8_lt {n : Int} (h : (Lit.int .u8 n).wf = true) : ∃ m : Nat, n = m ∧ m < 256 := by
  have h1 := bounds_u8 h
  exact ⟨n.toNat, by omega, by omega⟩
def ds6 (a b c d e f : Nat) : DataW H := .agg [.lit (.int .u8 a), .lit (.int .u8 b), .lit (.int .u8 c), .lit (.int .u8 d), .lit (.int .u8 e), .lit (.int .u8 f)]
theorem open_six {v : Value} {x : DataW H} {p : List MemPlace} (hval : Value.okWide Tryd.prog w .any b0 22 v) (hd : DataW.Trod enc Tryd.prog w base sp held 22 v x p) :
    ∃ a b c d e f : Nat, (a < 256 ∧ b < 256 ∧ c < 256 ∧ d < 256 ∧ e < 256 ∧ f < 256) ∧ v = .agg #[.int .u8 a, .int .u8 b, .int .u8 c, .int .u8 d, .int .u8 e, .int .u8 f] ∧ x = ds6 a b c d e f ∧ p = [] := by
  unfold Value.okWide at hval
  rw [Tryd.underlying22] at hval
  obtain ⟨cs, rfl, hsz, _⟩ := hval
  obtain ⟨fuel, hf⟩ := hd
  have hce : Tryd.prog.cellsOf 22 = 6 := by kernel_rfl
  have hc5 : Tryd.prog.cellsOf 5 = 1 := by kernel_rfl
  rw [hce] at hsz
  obtain ⟨xs, m, _, ex, _, hl, hel⟩ := DataW.trod_array Tryd.underlying22 hf
  obtain ⟨l⟩ := cs
  have hsz' : l.length = 6 := hsz
  rw [hc5] at hel
  match l, hsz', xs, hl, ex, hel with
  | [v0, v1, v2, v3, v4, v5], _, [x0, x1, x2, x3, x4, x5], _, ex, hel =>
    obtain ⟨n0, f0, g0, k0⟩ := DataW.trod_int Tryd.underlying5 (hel 0 (by omega))
    obtain ⟨n1, f1, g1, k1⟩ := DataW.trod_int Tryd.underlying5 (hel 1 (by omega))
    obtain ⟨n2, f2, g2, k2⟩ := DataW.trod_int Tryd.underlying5 (hel 2 (by omega))
    obtain ⟨n3, f3, g3, k3⟩ := DataW.trod_int Tryd.underlying5 (hel 3 (by omega))
    obtain ⟨n4, f4, g4, k4⟩ := DataW.trod_int Tryd.underlying5 (hel 4 (by omega))
    obtain ⟨n5, f5, g5, k5⟩ := DataW.trod_int Tryd.underlying5 (hel 5 (by omega))
    obtain rfl : v0 = .int .u8 n0 := (List.cons.inj f0).1
    obtain rfl : v1 = .int .u8 n1 := (List.cons.inj f1).1
    obtain rfl : v2 = .int .u8 n2 := (List.cons.inj f2).1
    obtain rfl : v3 = .int .u8 n3 := (List.cons.inj f3).1
    obtain rfl : v4 = .int .u8 n4 := (List.cons.inj f4).1
    obtain rfl : v5 = .int .u8 n5 := (List.cons.inj f5).1
    subst g0 g1 g2 g3 g4 g5
    obtain ⟨m0, rfl, l0⟩ := u8_lt k0
    obtain ⟨m1, rfl, l1⟩ := u8_lt k1
    obtain ⟨m2, rfl, l2⟩ := u8_lt k2
    obtain ⟨m3, rfl, l3⟩ := u8_lt k3
    obtain ⟨m4, rfl, l4⟩ := u8_lt k4
    obtain ⟨m5, rfl, l5⟩ := u8_lt k5
    exact ⟨m0, m1, m2, m3, m4, m5, ⟨l0, l1, l2, l3, l4, l5⟩, rfl, (Prod.mk.inj ex).1, (Prod.mk.inj ex).2⟩
theorem wf8 {n : Nat} (h : n < 256) : (Lit.int .u8 n).wf = true := by
  simp [Lit.wf, IntKind.min, IntKind.max, IntKind.signed, IntKind.bits]
  omega
theorem shut_six {a b c d e f : Nat} (h : a < 256 ∧ b < 256 ∧ c < 256 ∧ d < 256 ∧ e < 256 ∧ f < 256) :
    DataW.Trod enc Tryd.prog w base sp held 22 (.agg #[.int .u8 a, .int .u8 b, .int .u8 c, .int .u8 d, .int .u8 e, .int .u8 f]) (ds6 a b c d e f) [] := by
  obtain ⟨h0, h1, h2, h3, h4, h5⟩ := h
  have hce : Tryd.prog.cellsOf 22 = 6 := by kernel_rfl
  have hc5 : Tryd.prog.cellsOf 5 = 1 := by kernel_rfl
  have r6 : List.range 6 = [0, 1, 2, 3, 4, 5] := rfl
  refine ⟨2, ?_⟩
  simp [DataW.trod, Tryd.underlying22, Tryd.underlying5, r6, hce, hc5, Value.cells, wf8 h0, wf8 h1, wf8 h2, wf8 h3, wf8 h4, wf8 h5, ds6]
end

section
variable {H : Type} {enc : TypeId × Value → H}
/-- The wrap for a row with listed variables that hands the contract the world's shape. -/
theorem wrap {a : Assume} {C : Checked} {os : Os} {f : FuncId} {fn : Func} {s : ChangeSpec} {conds : List PathCond} {apart fresh handsOn again : Bool} {X : World → Array Value → Prop}
    (hX : ∀ (w w' : World) (args : Array Value), w.heap = w'.heap → X w args → X w' args)
    (own : ownKnob C.prog.godebug = none) (started : os.Started) (noInit : C.prog.inits.idxOf? f = none) (hfn : C.prog.funcs[f]? = some fn)
    (witness : ∃ (w : World) (tape : Tape) (i : Input), w.os = os ∧ (w.forCall tape i).Shaped C.prog ∧ i.vars = [] ∧ Input.okWide C.prog (w.forCall tape i) .any w.heap.size f i ∧
      ((s.pre enc C.prog fn conds apart (w.forCall tape i).memory i.args ∧ X (w.forCall tape i).memory i.args) ∧ sizedMet enc C.prog fn (OpenSpec.ofChange s) apart (w.forCall tape i).memory i.args) ∧ a.holds C.prog (lone (Frame.enter C.prog f i.args .normal) [] (w.forCall tape i)))
    (contract : ∀ (W : World) (base : Nat) (args : Array Value) (ds gs : List (DataW H)) (before : List MemPlace),
      (∀ (j : Nat) t v, fn.params[j]? = some t → args[j]? = some v → Value.okWide C.prog W .any base t v) →
      DataW.Whole enc C.prog fn.params.toList s.vars apart W args.toList ds gs before →
      X W args → W.ShapedOpen C.prog →
      Calls C.prog f args W fun e W' => ∃ v, e = .returned v ∧ s.post enc C.prog fn apart fresh handsOn again W args v W') :
    ReturnsInHanded a C os f .any (fun w args => (s.pre enc C.prog fn conds apart w args ∧ X w args) ∧ sizedMet enc C.prog fn (OpenSpec.ofChange s) apart w args) (s.post enc C.prog fn apart fresh handsOn again) := by
  refine returnsInHanded_of_calls own started noInit witness ?_
  intro w tape i _ hsh _ hok hpre _
  obtain ⟨_, _, _, fn', hfn', _, _, _, _, hval⟩ := hok
  have e : fn' = fn := Option.some.inj (hfn'.symm.trans hfn)
  subst e
  obtain ⟨⟨⟨ds, gs, before, hw, _⟩, hx⟩, _⟩ := hpre
  have hw' := DataW.Whole.of_heap (w' := w.forCall tape i) (by rfl) hw
  refine (contract (w.forCall tape i) w.heap.size i.args ds gs before hval hw' (hX _ _ _ (by rfl) hx) hsh).mono fun e W' ⟨v, he, hp⟩ => ?_
  subst he
  exact ChangeSpec.post_blind hp
end
end Go.Proofs.YteiaojapolpjaaaDoor
