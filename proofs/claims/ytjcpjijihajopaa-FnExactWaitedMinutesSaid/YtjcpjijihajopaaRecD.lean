/-
  Records and slices of them.
-/
import Derived.Test.YtjcpjijihajopaaOwnV
set_option linter.unusedSectionVars false
set_option linter.unusedSimpArgs false
set_option linter.unusedVariables false
namespace Go.Proofs.Ytjcpjijihajopaa
open Go.RowKit
set_option linter.unusedVariables false
structure RecD where
  c : Int
  l : Int
  o : Int
  f : Int
  h : Int
  t : Int
  e : ByteArray
  deriving DecidableEq
def RecD.cells (d : RecD) : List Value := [.int .i64 d.c, .int .i64 d.l, .int .i64 d.o, .int .i64 d.f, .int .i64 d.h, .int .i64 d.t, .string d.e]
def RecD.val (d : RecD) : Value := .agg #[.int .i64 d.c, .int .i64 d.l, .int .i64 d.o, .int .i64 d.f, .int .i64 d.h, .int .i64 d.t, .string d.e]
def recs (ds : List RecD) : List Value := ds.flatMap RecD.cells
theorem recs_len (ds : List RecD) : (recs ds).length = ds.length * 7 := flat_len RecD.cells (s := 7) (fun _ => rfl) ds
theorem recs_get {ds : List RecD} {k : Nat} {d : RecD} (h : ds[k]? = some d) : (recs ds)[k * 7 + 0]? = some (.int .i64 d.c) ∧ (recs ds)[k * 7 + 1]? = some (.int .i64 d.l) ∧ (recs ds)[k * 7 + 2]? = some (.int .i64 d.o) ∧ (recs ds)[k * 7 + 3]? = some (.int .i64 d.f) ∧ (recs ds)[k * 7 + 4]? = some (.int .i64 d.h) ∧ (recs ds)[k * 7 + 5]? = some (.int .i64 d.t) ∧ (recs ds)[k * 7 + 6]? = some (.string d.e) := by
  have e := fun i hi => flat_get RecD.cells (s := 7) (fun _ => rfl) ds k i hi
  unfold recs
  rw [e 0 (by omega), e 1 (by omega), e 2 (by omega), e 3 (by omega), e 4 (by omega), e 5 (by omega), e 6 (by omega), h]
  exact ⟨rfl, rfl, rfl, rfl, rfl, rfl, rfl⟩
theorem Slc.recLen {w : World} {lo hi n c : Nat} {A : Option Addr} {ds : List RecD} (h : Slc w lo hi 7 A n c (recs ds)) : ds.length = n := by
  have := h.len; rw [recs_len] at this; omega
/-- Cells of one record. -/
structure RecAt (w : World) (b off : Nat) (d : RecD) : Prop where
  c0 : w.cell? ⟨b, off, none⟩ = some (.int .i64 d.c)
  c1 : w.cell? ⟨b, off + 1, none⟩ = some (.int .i64 d.l)
  c2 : w.cell? ⟨b, off + 2, none⟩ = some (.int .i64 d.o)
  c3 : w.cell? ⟨b, off + 3, none⟩ = some (.int .i64 d.f)
  c4 : w.cell? ⟨b, off + 4, none⟩ = some (.int .i64 d.h)
  c5 : w.cell? ⟨b, off + 5, none⟩ = some (.int .i64 d.t)
  c6 : w.cell? ⟨b, off + 6, none⟩ = some (.string d.e)
theorem Slc.recAt {w : World} {lo hi n c : Nat} {A : Option Addr} {ds : List RecD} (h : Slc w lo hi 7 A n c (recs ds)) {k : Nat} (hk : k < n) :
    ∃ b off d, A = some ⟨b, off, none⟩ ∧ lo ≤ b ∧ b < hi ∧ b < w.heap.size ∧ ds[k]? = some d ∧ RecAt w b (off + k * 7) d := by
  obtain ⟨b, off, e, h1, h2, h3, h4⟩ := h.cells hk
  have hl : k < ds.length := by rw [h.recLen]; exact hk
  obtain ⟨g0, g1, g2, g3, g4, g5, g6⟩ := recs_get (List.getElem?_eq_getElem hl)
  exact ⟨b, off, ds[k], e, h1, h2, h3, List.getElem?_eq_getElem hl, ⟨h4 0 _ g0, h4 1 _ g1, h4 2 _ g2, h4 3 _ g3, h4 4 _ g4, h4 5 _ g5, h4 6 _ g6⟩⟩
end Go.Proofs.Ytjcpjijihajopaa
