/-
  The reference's RunLines and TakenFrom.
-/
import Derived.Test.YtojnnemodikpeaaDoorRunA
import Derived.Test.YtojnnemodikpeaaDoorValid
namespace Go.Proofs.YtojnnemodikpeaaDoor
open Go.RowKit
set_option linter.unusedVariables false
def runLinesF (rooms : List Int) (ds : List DeedD) : List (List UInt8) × Bool := if deedsB rooms ds then ((runF rooms ds).2, true) else ([], false)
def takenF (rooms : List Int) (ds : List DeedD) (line : Int) : List Int × Bool :=
  if (deedsB rooms ds && inB line 1 rooms.length) then (((runF rooms ds).1.getD line.toNat ⟨0, [], false, []⟩).taken, true) else ([], false)
/-- A slice that reads as xs, and a bool; nothing that was there has changed. -/
def ReadsVB (s : Nat) (w : World) (xs : List Value) (t : Bool) (e : Ending) (w' : World) : Prop :=
  ∃ A n c, e = .returned (.tuple #[.slice A n c, .bool t]) ∧ Slc w' 0 w'.heap.size s A n c xs ∧ Below w.heap.size w w'
set_option maxHeartbeats 2000000 in
theorem spec_RunLines (lo hi n c lo2 hi2 m c2 : Nat) (A A2 : Option Addr) (rooms : List Int) (ds : List DeedD) (w : World) (h : Slc w lo hi 1 A n c (ints rooms)) (h2 : Slc w lo2 hi2 3 A2 m c2 (deeds ds)) (hn : n ≤ 1048576) (hm : m ≤ 1048576) :
    Calls Tryd.prog 29 #[.slice A n c, .slice A2 m c2] w (NewVB 9 1 w (txts (runLinesF rooms ds).1) (runLinesF rooms ds).2) := by
  cases hd : deedsB rooms ds with
  | false =>
    have hF : runLinesF rooms ds = ([], false) := by unfold runLinesF; rw [hd]; rfl
    rw [hF]
    go_enter Tryd.func29, Tryd.ntmps29
    go_wp2_with (go_at_call 58; refine (spec_l1Valid _ _ _ _ _ _ _ _ _ _ rooms ds _ h h2 hn hm).mono ?_; rintro e w1 ⟨rfl, b1⟩; rw [hd])
    refine bodyPost_ret (v := .tuple #[.slice (some ⟨w1.heap.size, 0, none⟩) 0 0, .bool false]) ?_ rfl ⟨_, 0, 0, rfl, OwnV.empty _ _ _ _, below_al b1 _⟩
    simp [results, Tryd.results29, go_sem]
  | true =>
    have hF : runLinesF rooms ds = ((runF rooms ds).2, true) := by unfold runLinesF; rw [hd]; rfl
    rw [hF]
    go_enter Tryd.func29, Tryd.ntmps29
    go_wp2_with (first
      | (go_at_call 58; refine (spec_l1Valid _ _ _ _ _ _ _ _ _ _ rooms ds _ h h2 hn hm).mono ?_; rintro e w1 ⟨rfl, b1⟩; rw [hd])
      | (go_at_call 60; refine (l1Run_any _ _ _ _ _ _ _ _ _ _ rooms ds _ (h.below b1) (h2.below b1) hd).mono ?_; rintro e w2 ⟨gl, cl, go, co, vs, rfl, St⟩; have HST := Lib.hid St; clear St))
    obtain ⟨A', c', e', o⟩ := ownV_of_row HST.out.out (by decide)
    injection e' with e1 e2 e3
    subst e1 e3
    refine bodyPost_ret (v := .tuple #[.slice (some ⟨go, 0, none⟩) ds.length co, .bool true]) ?_ rfl ⟨_, _, _, rfl, o.wide b1.size (Nat.le_refl _), below_step b1 HST.out.B⟩
    simp [results, Tryd.results29, go_sem]
set_option maxHeartbeats 2000000 in
theorem spec_TakenFrom (lo hi n c lo2 hi2 m c2 : Nat) (A A2 : Option Addr) (rooms : List Int) (ds : List DeedD) (line : Int) (w : World) (h : Slc w lo hi 1 A n c (ints rooms)) (h2 : Slc w lo2 hi2 3 A2 m c2 (deeds ds)) (hn : n ≤ 1048576) (hm : m ≤ 1048576) :
    Calls Tryd.prog 18 #[.slice A n c, .slice A2 m c2, .int .i64 line] w (ReadsVB 1 w (ints (takenF rooms ds line).1) (takenF rooms ds line).2) := by
  have hl := Lib.hid h.length
  cases hd : deedsB rooms ds with
  | false =>
    have hF : takenF rooms ds line = ([], false) := by unfold takenF; rw [hd]; rfl
    rw [hF]
    go_enter Tryd.func18, Tryd.ntmps18
    go_wp2_with (go_at_call 58; refine (spec_l1Valid _ _ _ _ _ _ _ _ _ _ rooms ds _ h h2 hn hm).mono ?_; rintro e w1 ⟨rfl, b1⟩; rw [hd])
    refine bodyPost_ret (v := .tuple #[.slice (some ⟨w1.heap.size, 0, none⟩) 0 0, .bool false]) ?_ rfl ⟨_, 0, 0, rfl, (OwnV.empty (E := 0) _ _ _ _).slc, below_al b1 _⟩
    simp [results, Tryd.results18, go_sem]
  | true =>
    obtain ⟨t, ht⟩ : ∃ t, t = inB line 1 n := ⟨_, rfl⟩
    have HT := Lib.hid ht
    clear ht
    cases t with
    | false =>
      have hF : takenF rooms ds line = ([], false) := by unfold takenF; rw [hd, hl.out, ← HT.out]; rfl
      rw [hF]
      go_enter Tryd.func18, Tryd.ntmps18
      go_wp2_with (first
        | (go_at_call 58; refine (spec_l1Valid _ _ _ _ _ _ _ _ _ _ rooms ds _ h h2 hn hm).mono ?_; rintro e w1 ⟨rfl, b1⟩; rw [hd])
        | (go_at_call 59; refine (l1In_any line 1 n _).mono ?_; rintro e w2 ⟨rfl, rfl⟩; rw [← HT.out]))
      refine bodyPost_ret (v := .tuple #[.slice (some ⟨w2.heap.size, 0, none⟩) 0 0, .bool false]) ?_ rfl ⟨_, 0, 0, rfl, (OwnV.empty (E := 0) _ _ _ _).slc, below_al b1 _⟩
      simp [results, Tryd.results18, go_sem]
    | true =>
      have hb : 1 ≤ line ∧ line ≤ n := by have := HT.out.symm; simpa [inB] using this
      obtain ⟨L, rfl⟩ := Int.eq_ofNat_of_zero_le (show 0 ≤ line by omega)
      have hF : takenF rooms ds (L : Int) = (((runF rooms ds).1.getD L ⟨0, [], false, []⟩).taken, true) := by unfold takenF; rw [hd, hl.out, ← HT.out]; rfl
      rw [hF]
      have i0 : (0 : Int) ≤ (L : Int) := by omega
      have i1 : (L : Int) < (rooms.length : Int) + 1 := by have := hl.out; omega
      have hL : L < rooms.length + 1 := by omega
      go_enter Tryd.func18, Tryd.ntmps18
      go_wp2_with (first
        | (go_at_call 58; refine (spec_l1Valid _ _ _ _ _ _ _ _ _ _ rooms ds _ h h2 hn hm).mono ?_; rintro e w1 ⟨rfl, b1⟩; rw [hd])
        | (go_at_call 59; refine (l1In_any (L : Int) 1 n _).mono ?_; rintro e w2 ⟨rfl, rfl⟩; rw [← HT.out])
        | (go_at_call 60; refine (l1Run_any _ _ _ _ _ _ _ _ _ _ rooms ds _ (h.below b1) (h2.below b1) hd).mono ?_; rintro e w3 ⟨gl, cl, go, co, vs, rfl, St⟩; obtain ⟨v, hv⟩ : ∃ v, vs[L]? = some v := ⟨_, List.getElem?_eq_getElem (by rw [lns_len St.lines]; exact hL)⟩; have c3 := row_cells St.lines (lnCells_get hv).2.2.2; have HST := Lib.hid (And.intro St hv); clear St hv))
      obtain ⟨St, hv⟩ := HST.out
      obtain ⟨l, hl'⟩ : ∃ l, (runF rooms ds).1[L]? = some l := ⟨_, List.getElem?_eq_getElem (by rw [St.len]; exact hL)⟩
      have hge : (runF rooms ds).1.getD L ⟨0, [], false, []⟩ = l := by rw [List.getD_eq_getElem?_getD, hl']; rfl
      rw [hge]
      refine bodyPost_ret (v := .tuple #[.slice v.AT v.nT v.cT, .bool true]) ?_ rfl ⟨_, _, _, rfl, (St.lns L v l hv hl').1.taken, below_step b1 St.B⟩
      simp [results, Tryd.results18, go_sem]
end Go.Proofs.YtojnnemodikpeaaDoor
