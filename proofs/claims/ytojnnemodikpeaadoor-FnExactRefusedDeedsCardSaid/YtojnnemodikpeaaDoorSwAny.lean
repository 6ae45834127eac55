/-
  The switchboard: do, whatever the deed.
-/
import Derived.Test.YtojnnemodikpeaaDoorSwDo4
namespace Go.Proofs.YtojnnemodikpeaaDoor
open Go.RowKit Go.Conc
set_option linter.unusedVariables false
/-- What is small about a line. -/
def LnFit (l : Ln) : Prop := l.held.length ≤ 60 ∧ l.taken.length ≤ 60 ∧ ∀ x ∈ l.held, 0 ≤ x ∧ x ≤ 1000
theorem set_self {α : Type} {l : List α} {i : Nat} {a : α} (h : l[i]? = some a) : l.set i a = l := by
  apply List.ext_getElem?
  intro j
  by_cases e : i = j
  · subst e
    rw [List.getElem?_set_self (List.getElem?_eq_some_iff.1 h).1, h]
  · rw [List.getElem?_set_ne e]
theorem do_any {w : World} {base : Nat} {S : Sw} {ls : List Ln} (h : SwOk w base S ls) (hw : base ≤ w.heap.size) {d : DeedD} (hd : deedP S.cs.length d) (hcs : S.cs.length ≤ 6) {l : Ln} (hl : ls[d.a.toNat]? = some l) (hf : LnFit l)
    (htab : ∀ w', Below base w w' → Lib.TabIs Tryd.prog w' "internal/strconv.uint64pow10" .u64 Lib.pow10Tab) :
    Calls Tryd.prog 87 #[.pointer (some ⟨S.sp, 0, none⟩), .agg #[.string d.act, .int .i64 d.a, .int .i64 d.b]] w fun e w' =>
      e = .returned (.string ⟨(doneF l d).2.toArray⟩) ∧ SwOk w' base S (ls.set d.a.toNat (doneF l d).1) ∧ Below base w w' ∧ KeepC w w' := by
  obtain ⟨p1, p2, p3, p4, p5, p6⟩ := hd
  obtain ⟨f1, f2, f3⟩ := hf
  have still : ∀ {t : List UInt8}, doneF l d = (l, t) → (∀ (e : Ending) (w' : World), (e = .returned (.string ⟨t.toArray⟩) ∧ Below w.heap.size w w') → e = .returned (.string ⟨(doneF l d).2.toArray⟩) ∧ SwOk w' base S (ls.set d.a.toNat (doneF l d).1) ∧ Below base w w' ∧ KeepC w w') := by
    intro t ht e w' ⟨he, hb⟩
    rw [ht]
    refine ⟨he, ?_, hb.mono hw, KeepC.below hb⟩
    simp only
    rw [set_self hl]
    exact h.below hb
  by_cases h0 : d.a = 0
  · have hl0 : l = ⟨0, [], false, []⟩ := by
      rw [h0] at hl
      have := h.head
      rw [show (0 : Int).toNat = 0 from rfl, this] at hl
      injection hl with hl; exact hl.symm
    by_cases hk : d.act.toList = lookA
    · refine (do_look0 h hw h0 hk).mono (still ?_)
      unfold doneF; rw [if_pos hk, hl0]; rfl
    · refine (do_never h hw h0 hk).mono (still ?_)
      unfold doneF; rw [if_neg hk, if_pos h0]
  · obtain ⟨i, hi⟩ : ∃ i : Nat, d.a = (i : Int) + 1 := ⟨(d.a - 1).toNat, by omega⟩
    have hiL : d.a.toNat = i + 1 := by omega
    rw [hiL] at hl ⊢
    have hic : i < S.cs.length := by omega
    have hc : S.cs[i]? = some S.cs[i] := List.getElem?_eq_getElem hic
    rw [hiL] at still
    by_cases hk : d.act.toList = lookA
    · refine (do_look h hw hc hl hi hk (by omega)).mono (still ?_)
      unfold doneF; rw [if_pos hk]
    · by_cases ht : d.act.toList = takeA
      · cases hh : l.held with
        | nil =>
          have hT : takeF l = doneF l d := by
            unfold doneF takeF; rw [if_neg hk, if_neg h0, hh, ht]
            cases l.ended <;> simp
          refine (do_take_none h hw hc hl hi ht hh).mono fun e w' ⟨he, hb⟩ => still (t := (takeF l).2) ?_ e w' ⟨he, hb⟩
          rw [← hT]
          unfold takeF; rw [hh]
        | cons x xs =>
          have hT : takeF l = doneF l d := by
            unfold doneF takeF; rw [if_neg hk, if_neg h0, hh, ht]
            simp
          obtain ⟨x0, x1⟩ := f3 x (by rw [hh]; exact List.mem_cons_self)
          rw [← hT]
          exact do_take_some h hw hc hl hi ht hh x0 x1 (by omega) htab
      · have htb : (d.act.toList == takeA) = false := by rw [beq_eq_false_iff_ne]; exact ht
        cases he : l.ended with
        | true =>
          refine (do_ended h hw hc hl hi hk ht he).mono (still ?_)
          unfold doneF; rw [if_neg hk, if_neg h0, htb, he]
          cases l.held <;> simp
        | false =>
          by_cases hend : d.act.toList = endA
          · have hT : doneF l d = ({ l with ended := true }, tEnd) := by
              unfold doneF; rw [if_neg hk, if_neg h0, htb, he]
              cases l.held <;> simp [hend]
            rw [hT]
            exact do_end h hw hc hl hi hend he hcs
          · have hput : d.act.toList = putA := by
              rcases p1 with q | q | q | q
              · exact q
              · exact absurd q ht
              · exact absurd q hend
              · exact absurd q hk
            by_cases hr : l.room ≤ l.held.length
            · refine (do_full h hw hc hl hi hput he hr).mono (still ?_)
              unfold doneF; rw [if_neg hk, if_neg h0, htb, he]
              cases hh : l.held <;> rw [hh] at hr <;> simp [hend] <;> exact fun hc => absurd hr (by simpa using hc)
            · have hT : doneF l d = ({ l with held := l.held ++ [d.b] }, tPut) := by
                unfold doneF; rw [if_neg hk, if_neg h0, htb, he]
                cases hh : l.held <;> rw [hh] at hr <;> simp [hend] <;> exact fun hc => absurd hc (by simpa using hr)
              rw [hT]
              exact do_put h hw hc hl hi hput he (by omega)
end Go.Proofs.YtojnnemodikpeaaDoor
