/-
  The variable ErrRange: what the rows list of it.
-/
import Derived.Test.YtppeonlpocdhkaaDoorKit
import Derived.Test.YtppeonlpocdhkaaDoorNumWalk
namespace Go.Proofs.YtppeonlpocdhkaaDoor
open Go.RowKit
theorem gErr : Tryd.prog.globalNamed "strconv.ErrRange" = some 4 := by kernel_rfl
theorem tErr : (Tryd.prog.globals[4]?).map (·.type) = some 67 := by kernel_rfl
theorem iface_cell {P : Program} {w : World} {base fuel : Nat} {sp : Nat → Bool} {t : TypeId} {ms : Array (String × TypeId)} {l : List Value} {nm : String} {d : DataW Unit} {p : List MemPlace} (ht : P.underlying t = some (.interface ms))
    (h : DataW.trod (fun _ => ()) P w base sp false fuel t l = some (.iface nm d, p)) : ∃ u v, l = [.iface u v] := by
  cases fuel with
  | zero => simp [DataW.trod] at h
  | succ fuel =>
    simp only [DataW.trod, ht] at h
    split at h <;> first | exact ⟨_, _, rfl⟩ | (rename_i heq; injection heq with heq; cases heq; done) | (simp at h; done) | simp_all
theorem errVar {W : World} {laid : List (String × DataW Unit)} (h : laidMet Tryd.prog laid W) (i : Nat) (hi : laid[i]? = some ("strconv.ErrRange", Rows.laid_strconv_ErrRange)) : ErrV W := by
  obtain ⟨cs, fuel, p, hv, hd⟩ := laid_at h i hi gErr tErr
  obtain ⟨t, fr, hb⟩ := var_block gErr hv
  obtain ⟨u, v, e⟩ := iface_cell Tryd.underlying67 hd
  refine ⟨u, v, (Lib.cell_of_heap hb 0).trans ?_⟩
  obtain ⟨l⟩ := cs
  have e' : l = [.iface u v] := e
  subst e'
  rfl
end Go.Proofs.YtppeonlpocdhkaaDoor
