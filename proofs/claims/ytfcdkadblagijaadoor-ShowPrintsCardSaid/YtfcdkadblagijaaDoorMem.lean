/-
  Words for memory: a row of bytes of the call's own made a text.
-/
import Derived.Test.YtfcdkadblagijaaDoorKit
import Derived.Lib.BufferRead
namespace Go.Proofs.YtfcdkadblagijaaDoor
open Go.RowKit
/-- Bytes as cells. -/
def byteCells (xs : List UInt8) : List Value := xs.map fun c => .int .u8 (c.toNat : Int)
theorem byteCells_one (xs : List UInt8) : ∀ u ∈ byteCells xs, u.oneCell' = true := by
  intro u hu
  obtain ⟨c, _, rfl⟩ := List.mem_map.1 hu
  rfl
theorem push_all (xs : List UInt8) : ∀ (s : ByteArray), (xs.map fun c => (c.toNat : Int)).foldl (fun r n => r.push (UInt8.ofNat n.toNat)) s = ⟨(s.data.toList ++ xs).toArray⟩ := by
  induction xs with
  | nil => intro s; simp
  | cons c xs ih =>
    intro s
    simp only [List.map_cons, List.foldl_cons]
    rw [ih]
    simp [ByteArray.push]
/-- 'string(b)' of a row of the call's own. -/
theorem run_string_own {P : Program} (w : World) (src dst e : TypeId) (hs : P.underlying src = some (.slice e)) (he : P.underlying e = some (.int .u8)) (hd : P.underlying dst = some .string)
    {base n : Nat} {v : Value} {xs : List UInt8} (hown : w.ownsRow base e 1 v n (byteCells xs)) : (convert src dst v).run P w = .ok (.string ⟨xs.toArray⟩) w := by
  have hl : xs.length = n := by have := hown.1; simpa [byteCells] using this
  rcases hown.2 with ⟨rfl, rfl⟩ | ⟨g, cap, cur, rfl, _⟩
  · have : xs = [] := List.eq_nil_of_length_eq_zero hl
    subst this
    exact Lib.run_convert_nil_bytes w src dst e 0 hs he hd
  · have hc := hown.cells (g := g) rfl
    rw [run_convert_bytes_string w src dst e _ _ _ hs he hd]
    have hload := run_loadCells_list (P := P) (w := w) ⟨g, 0, none⟩ (byteCells xs) hc
    have hlen : (byteCells xs).length = n := by simp [byteCells, hl]
    rw [hlen] at hload
    have h2 := run_bytesToString (P := P) w ⟨g, 0, none⟩ n cap (xs.map fun c => (c.toNat : Int)) (by rw [hload]; congr 1; simp [byteCells])
    rw [h2, push_all]
    simp
theorem info_of {P : Program} {e : TypeId} {z : Value} {size bytes : Nat} (h : (P.info? e).map (fun i => (i.zero, i.size, i.bytes)) = some (some z, size, bytes)) :
    ∃ i, P.info? e = some i ∧ i.zero = some z ∧ i.size = size ∧ i.bytes = bytes := info_parts h
end Go.Proofs.YtfcdkadblagijaaDoor
