/-
  Lines as they are at first: l1Open.
-/
import Derived.Test.YtojnnemodikpeaaDoorDoneA
namespace Go.Proofs.YtojnnemodikpeaaDoor
open Go.RowKit
set_option linter.unusedVariables false
def lnCells (vs : List LnV) : List Value := vs.flatMap LnV.cells
theorem lnCells_len (vs : List LnV) : (lnCells vs).length = vs.length * 4 := flat_len LnV.cells (s := 4) (fun _ => rfl) vs
theorem lnCells_get {vs : List LnV} {k : Nat} {v : LnV} (h : vs[k]? = some v) : (lnCells vs)[k * 4 + 0]? = some (.int .i64 v.room) ∧ (lnCells vs)[k * 4 + 1]? = some (.slice v.AH v.nH v.cH) ∧ (lnCells vs)[k * 4 + 2]? = some (.bool v.ended) ∧ (lnCells vs)[k * 4 + 3]? = some (.slice v.AT v.nT v.cT) := by
  have g : ∀ i, i < 4 → (lnCells vs)[k * 4 + i]? = (v.cells)[i]? := fun i hi => by
    have := flat_get LnV.cells (s := 4) (fun _ => rfl) vs k i hi
    rw [h] at this; exact this
  exact ⟨g 0 (by decide), g 1 (by decide), g 2 (by decide), g 3 (by decide)⟩
theorem info_line : (Tryd.prog.info? 71).map (fun i => (i.zero, i.size, i.bytes)) = some (some (.agg #[.int .i64 0, .slice none 0 0, .bool false, .slice none 0 0]), 4, 64) := by kernel_rfl
def v00 : LnV := ⟨0, none, 0, 0, false, none, 0, 0⟩
/-- A new line's value. -/
structure FreshV (v : LnV) (r : Int) : Prop where
  room : v.room = r
  nH : v.nH = 0
  cH : v.cH = 0
  ended : v.ended = false
  nT : v.nT = 0
  cT : v.cT = 0
theorem FreshV.ok {v : LnV} {r : Int} (h : FreshV v r) (w : World) (P : Nat → Prop) : LnOk w P v ⟨r, [], false, []⟩ := by
  obtain ⟨a, b, c, d, e, f, g, i⟩ := v
  obtain ⟨rfl, rfl, rfl, rfl, rfl, rfl⟩ := h
  exact ⟨rfl, rfl, ⟨rfl, Nat.le_refl _, Nat.zero_le _, fun h => absurd h (by simp)⟩, ⟨rfl, Nat.le_refl _, Nat.zero_le _, fun h => absurd h (by simp)⟩, fun _ _ h => absurd h (by simp), fun _ _ h => absurd h (by simp)⟩
/-- The values of lines at first. -/
structure OpenVs (vs : List LnV) (rs : List Int) : Prop where
  len : vs.length = rs.length + 1
  head : vs[0]? = some v00
  rest : ∀ j r, rs[j]? = some r → ∃ v, vs[j + 1]? = some v ∧ FreshV v r ∧ v.full
theorem OpenVs.snoc {vs : List LnV} {rs : List Int} (h : OpenVs vs rs) {v : LnV} {r : Int} (hv : FreshV v r) (hf : v.full) : OpenVs (vs ++ [v]) (rs ++ [r]) := by
  refine ⟨by simp [h.len], ?_, fun j q hq => ?_⟩
  · rw [List.getElem?_append_left (by rw [h.len]; omega)]; exact h.head
  · rcases Nat.lt_or_ge j rs.length with hj | hj
    · rw [List.getElem?_append_left hj] at hq
      obtain ⟨u, hu, hu2⟩ := h.rest j q hq
      exact ⟨u, by rw [List.getElem?_append_left (by rw [h.len]; omega)]; exact hu, hu2⟩
    · have hj' : j = rs.length := by have := (List.getElem?_eq_some_iff.1 hq).1; simp at this; omega
      subst hj'
      have hq' : r = q := by simpa using hq
      subst hq'
      exact ⟨v, by rw [← h.len]; simp, hv, hf⟩
theorem OpenVs.lns {vs : List LnV} {rs : List Int} (h : OpenVs vs rs) (w : World) (P : Nat → Prop) : ∀ i v l, vs[i]? = some v → (openF rs)[i]? = some l → LnOk w P v l ∧ (0 < i → v.full) := by
  intro i v l hv hl
  cases i with
  | zero =>
    rw [h.head] at hv
    have e1 : v00 = v := by simpa using hv
    have e2 : (⟨0, [], false, []⟩ : Ln) = l := by simpa [openF] using hl
    subst e1 e2
    exact ⟨FreshV.ok ⟨rfl, rfl, rfl, rfl, rfl, rfl⟩ w P, fun h => absurd h (by omega)⟩
  | succ j =>
    have : ∃ r, rs[j]? = some r ∧ l = ⟨r, [], false, []⟩ := by
      unfold openF at hl
      rw [List.getElem?_cons_succ, List.getElem?_map] at hl
      cases hr : rs[j]? with
      | none => rw [hr] at hl; cases hl
      | some r => rw [hr] at hl; exact ⟨r, rfl, by simpa using hl.symm⟩
    obtain ⟨r, hr, rfl⟩ := this
    obtain ⟨u, hu, hu1, hu2⟩ := h.rest j r hr
    rw [hu] at hv
    have e : u = v := by simpa using hv
    subst e
    exact ⟨hu1.ok w P, fun _ => hu2⟩
theorem lnCells_snoc (vs : List LnV) (v : LnV) : lnCells (vs ++ [v]) = lnCells vs ++ v.cells := by simp [lnCells]
theorem take_snoc' {α : Type} {l : List α} {k : Nat} {a : α} (h : l[k]? = some a) : l.take (k + 1) = l.take k ++ [a] := by
  obtain ⟨hk, e⟩ := List.getElem?_eq_some_iff.1 h
  rw [List.take_succ_eq_append_getElem hk, e]
set_option maxRecDepth 20000 in
set_option maxHeartbeats 2000000 in
theorem l1Open_any (lo hi n c : Nat) (A : Option Addr) (rs : List Int) (w : World) (h : Slc w lo hi 1 A n c (ints rs)) (hn : n ≤ 6) :
    Calls Tryd.prog 84 #[.slice A n c] w fun e w' => ∃ g cl vs, e = .returned (.slice (some ⟨g, 0, none⟩) (rs.length + 1) cl) ∧ w'.ownsRow w.heap.size 71 4 (.slice (some ⟨g, 0, none⟩) (rs.length + 1) cl) (rs.length + 1) (lnCells vs) ∧ OpenVs vs rs ∧ Below w.heap.size w w' := by
  have hl := Lib.hid h.length
  obtain ⟨i0, hi0, hz0, hz1, hz2⟩ := info_parts info_line
  have HI := Lib.hid (And.intro hi0 (And.intro hz0 (And.intro hz1 hz2)))
  clear hi0 hz0 hz1 hz2
  go_enter Tryd.func84, Tryd.ntmps84
  go_wp2
  go_loopw [3, 4] (fun v i wr => ∃ (k g cl : Nat) (vs : List LnV), k ≤ n ∧ i = .int .i64 k ∧ v = .slice (some ⟨g, 0, none⟩) (k + 1) cl ∧ Below w.heap.size w wr ∧ wr.ownsRow w.heap.size 71 4 (.slice (some ⟨g, 0, none⟩) (k + 1) cl) (k + 1) (lnCells vs) ∧ OpenVs vs (rs.take k)) (fun _ i _ => n - (intOf i).toNat)
  case atStart =>
    refine ⟨0, w.heap.size, 1, [v00], Nat.zero_le _, rfl, rfl, below_al (Below.refl _ _) _, ⟨rfl, .inr ⟨_, _, _, rfl, Nat.le_refl _, heap_alloc_new _ _, Nat.le_refl _, by unfold maxLen; omega, rfl, rfl⟩⟩, ⟨by simp, rfl, fun j r hj => by simp at hj⟩⟩
  case round =>
    obtain ⟨k, g, cl, vs, hk, rfl, rfl, B, hown, hv⟩ := hrel
    have HOW := Lib.hid hown
    have HV := Lib.hid hv
    have HB := Lib.hid B
    clear hown hv
    by_cases hlt : k < n
    · obtain ⟨b, off, x, rfl, _, _, h3, hxk, hv0⟩ := h.cellAt hlt
      have hv := (B.cell (p := ⟨b, off + k, none⟩) h3).trans hv0
      have HX := Lib.hid hxk
      have s0 := B.size
      clear hxk h hv0 B
      obtain ⟨hi0, hz0, hz1, hz2⟩ := HI.out
      have HH := Lib.hid hi0
      clear hi0
      go_wp2_with (at_builtin; refine wpList_app _ rfl (.tmp 13) (.tmp 21) 67 rfl w.heap.size 71 i0 (.agg #[.int .i64 0, .slice none 0 0, .bool false, .slice none 0 0]) 4 64 Tryd.underlying67 HH.out hz0 hz1 hz2 rfl (by decide) (.slice (some ⟨g, 0, none⟩) (k + 1) cl) (k + 1) (lnCells vs) rfl (row_keep HOW.out ?c1) (by simp) ⟨_, 0, none⟩ 1 1 (LnV.cells ⟨x, some ⟨wr.heap.size, 0, none⟩, 0, 0, false, some ⟨wr.heap.size + 1, 0, none⟩, 0, 0⟩) rfl rfl ?c2 (by intro u hu; simp [LnV.cells] at hu; rcases hu with rfl | rfl | rfl | rfl <;> rfl) ?c5 ?c6 ?c7 ?_; (case c1 => (intro b hb; have := ((below_al (below_al (below_al (Below.refl wr.heap.size wr) (.cells #[] 3)) (.cells #[] 3)) (.cells (LnV.cells ⟨x, some ⟨wr.heap.size, 0, none⟩, 0, 0, false, some ⟨wr.heap.size + 1, 0, none⟩, 0, 0⟩).toArray 71)).block b hb); exact this)); (case c2 => exact World.news_of_block (cs := (LnV.cells ⟨x, some ⟨wr.heap.size, 0, none⟩, 0, 0, false, some ⟨wr.heap.size + 1, 0, none⟩, 0, 0⟩).toArray) (heap_new' _ _ (by simp))); (case c5 => unfold maxLen; omega); (case c6 => omega); (case c7 => (simp; omega)); intro g1 c1 w1 hown1 hgr1 B1; have HO1 := Lib.hid hown1; have HB1 := Lib.hid B1; clear hown1 hgr1 B1)
      go_roundw
      case rel =>
        refine ⟨k + 1, g1, c1, vs ++ [⟨x, some ⟨wr.heap.size, 0, none⟩, 0, 0, false, some ⟨wr.heap.size + 1, 0, none⟩, 0, 0⟩], by omega, by go_num, rfl, Below.trans (below_al (below_al (below_al HB.out _) _) _) HB1.out, by rw [lnCells_snoc]; exact HO1.out, ?_⟩
        rw [take_snoc' HX.out]
        exact HV.out.snoc ⟨rfl, rfl, rfl, rfl, rfl, rfl⟩ ⟨⟨_, _, rfl⟩, ⟨_, _, rfl⟩⟩
      case measure => simp [intOf]; omega
    · have e : k = n := by omega
      subst e
      clear h
      go_wp2
      go_ret
      have hv := HV.out
      rw [List.take_of_length_le (by rw [hl.out]; omega)] at hv
      exact ⟨g, cl, vs, by rw [hl.out]; simp, by rw [hl.out]; exact HOW.out, hv, B⟩
end Go.Proofs.YtojnnemodikpeaaDoor
