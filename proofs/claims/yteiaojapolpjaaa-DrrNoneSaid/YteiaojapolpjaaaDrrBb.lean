/- DrrNone, part 2b: words for Add. -/
import Derived.Test.YteiaojapolpjaaaDrrB
namespace Go.Proofs.Yteiaojapolpjaaa
open Go.RowKit Go.WB
def AddPost (B r n : Nat) (K Q D : List Value) (i : Nat) (k : ByteArray) (q0 t' : Int) (bg : Bool) (w : World) (e : Ending) (w' : World) : Prop :=
  e = .returned (.int .i64 0) ∧ Below B w w' ∧ Rnd B w' r (n + 1) (K.take i ++ .string k :: K.drop i) (Q.take i ++ .int .i64 q0 :: Q.drop i) (D.take i ++ .int .i64 0 :: D.drop i) t' bg

def RC (w : World) (r : Nat) (b c : Value) : Prop := ∃ a d e f, Blk w r 25 #[a, b, c, d, e, f]
theorem RC.cells {w : World} {r : Nat} {b c : Value} (h : RC w r b c) : w.cell? ⟨r, 1, none⟩ = some b ∧ w.cell? ⟨r, 2, none⟩ = some c := by
  obtain ⟨a, d, e, f, h⟩ := h
  exact ⟨h.cell 1, h.cell 2⟩
theorem RC.drew {w : World} {r : Nat} {b c : Value} (h : RC w r b c) : RC w.drew r b c := h
theorem RC.alloc {w : World} {r : Nat} {b c : Value} (h : RC w r b c) (o : Obj) : RC (w.alloc o) r b c := by
  obtain ⟨a, d, e, f, h⟩ := h
  exact ⟨a, d, e, f, h.alloc o⟩
theorem RC.mods {w w' : World} {S : Nat → Prop} {r : Nat} {b c : Value} (h : RC w r b c) (hm : Mods S w w') (hr : ¬ S r) : RC w' r b c := by
  obtain ⟨a, d, e, f, h⟩ := h
  exact ⟨a, d, e, f, h.mods hm hr⟩
theorem RC.fz {w : World} {r : Nat} {b c : Value} (h : RC w r b c) : w.frozen? ⟨r, 1, none⟩ = false ∧ w.frozen? ⟨r, 2, none⟩ = false := by
  obtain ⟨a, d, e, f, h⟩ := h
  exact ⟨h.frozen 1, h.frozen 2⟩
theorem RC.step {W W1 w3 : World} {S : Nat → Prop} {r : Nat} {b c : Value} (m3 : Mods S W1 w3) (h : RC W r b c) (hM : Mods (fun _ => False) W W1) (hr : ¬ S r) : RC w3 r b c ∧ Mods (fun _ => False) W W1 := ⟨(h.mods hM (fun h => h)).mods m3 hr, hM⟩
end Go.Proofs.Yteiaojapolpjaaa
