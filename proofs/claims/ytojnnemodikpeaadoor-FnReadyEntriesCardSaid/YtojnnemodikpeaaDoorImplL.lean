/-
  The program's RunLines and TakenFrom.
-/
import Derived.Test.YtojnnemodikpeaaDoorSwNew
import Derived.Test.YtojnnemodikpeaaDoorSpecL
import Derived.Lib.AppendIntMem
namespace Go.Proofs.YtojnnemodikpeaaDoor
open Go.RowKit Go.Conc
set_option linter.unusedVariables false
/-- The table of powers that strconv.Itoa reads. -/
def TabW (w : World) : Prop := Lib.TabIs Tryd.prog w "internal/strconv.uint64pow10" .u64 Lib.pow10Tab
theorem TabW.below {w w' : World} (h : TabW w) (hb : Below w.heap.size w w') : TabW w' := Lib.tabBelow_of_tabIs h w' hb
theorem Slc.old {w : World} {lo hi s n c : Nat} {A : Option Addr} {xs : List Value} (h : Slc w lo hi s A n c xs) : Slc w 0 w.heap.size s A n c xs :=
  ⟨h.len, h.le, h.cap, fun hn => by obtain ⟨b, off, e, _, _, h3, h4⟩ := h.at_ hn; exact ⟨b, off, e, Nat.zero_le _, h3, h3, h4⟩⟩
theorem OwnV.from {E s : Nat} {w : World} {lo hi n c : Nat} {A : Option Addr} {xs : List Value} {lo' : Nat} (h : OwnV E s w lo hi A n c xs) (hl : lo' ≤ lo) : OwnV E s w lo' hi A n c xs := h.wide hl (Nat.le_refl _)
theorem rooms_of {rooms : List Int} {ds : List DeedD} (h : deedsB rooms ds = true) : roomsB rooms = true := by
  unfold deedsB at h; simp only [Bool.and_eq_true] at h; exact h.1.1
theorem doAll_from {w1 w2 : World} {S : Sw} {rooms : List Int} {ds : List DeedD} (hsw : SwOk w2 w1.heap.size S (openF rooms)) (b2 : Below w1.heap.size w1 w2) (hl : S.cs.length = rooms.length) (hd : deedsB rooms ds = true) {lo2 hi2 m c2 : Nat} {A2 : Option Addr} (h2 : Slc w1 lo2 hi2 3 A2 m c2 (deeds ds)) (ht : TabW w1) :
    Calls Tryd.prog 64 #[.pointer (some ⟨S.sp, 0, none⟩), .slice A2 m c2] w2 fun e w' =>
      ∃ A c, e = .returned (.slice A m c) ∧ OwnV 9 1 w' w2.heap.size w'.heap.size A m c (txts (runF rooms ds).2) ∧ SwOk w' w1.heap.size S (runF rooms ds).1 ∧ Below w1.heap.size w1 w' := by
  refine (doAll_any hsw b2.size hl hd (h2.old.below b2) (Nat.le_refl _) (fun w' hb => ht.below (b2.trans hb))).mono ?_
  rintro e w' ⟨g, c, rfl, ho, hs, hb⟩
  obtain ⟨A', c', e', o⟩ := ownV_of_row ho (by decide)
  injection e' with e1 e2 e3
  subst e1 e3
  exact ⟨_, _, rfl, o, hs, b2.trans hb⟩
set_option maxHeartbeats 2000000 in
theorem impl_RunLines (lo hi n c lo2 hi2 m c2 : Nat) (A A2 : Option Addr) (rooms : List Int) (ds : List DeedD) (w : World) (h : Slc w lo hi 1 A n c (ints rooms)) (h2 : Slc w lo2 hi2 3 A2 m c2 (deeds ds)) (hn : n ≤ 1048576) (hm : m ≤ 1048576) (ht : TabW w) :
    Calls Tryd.prog 28 #[.slice A n c, .slice A2 m c2] w (NewVB 9 1 w (txts (runLinesF rooms ds).1) (runLinesF rooms ds).2) := by
  have HT := Lib.hid ht
  clear ht
  cases hd : deedsB rooms ds with
  | false =>
    have hF : runLinesF rooms ds = ([], false) := by unfold runLinesF; rw [hd]; rfl
    rw [hF]
    go_enter Tryd.func28, Tryd.ntmps28
    go_wp2_with (go_at_call 62; refine (impl_deedsValid _ _ _ _ _ _ _ _ _ _ rooms ds _ h h2 hn hm).mono ?_; rintro e w1 ⟨rfl, b1⟩; rw [hd])
    go_ret2
    exact ⟨_, 0, 0, rfl, OwnV.nil _ _ _, b1⟩
  | true =>
    have hF : runLinesF rooms ds = ((runF rooms ds).2, true) := by unfold runLinesF; rw [hd]; rfl
    rw [hF]
    have HD := Lib.hid hd
    go_enter Tryd.func28, Tryd.ntmps28
    go_wp2_with (first
      | (go_at_call 62; refine (impl_deedsValid _ _ _ _ _ _ _ _ _ _ rooms ds _ h h2 hn hm).mono ?_; rintro e w1 ⟨rfl, b1⟩; rw [HD.out]; have h1 := h.below b1; have h21 := h2.below b1; have HT1 := Lib.hid (HT.out.below b1))
      | (go_at_call 63; refine (new_any h1 (rooms_of HD.out)).mono ?_; rintro e w2 ⟨S, rfl, hsw, hln, b2⟩)
      | (go_at_call 64; refine (doAll_from hsw b2 hln HD.out h21 HT1.out).mono ?_; rintro e w3 ⟨A3, c3, rfl, o3, _, b3⟩))
    go_ret2
    have z1 := b1.size
    have z2 := b2.size
    have hmm := (runF_len rooms ds).2
    refine ⟨_, m, c3, rfl, o3.from (by omega), b1.trans (b3.mono (by omega))⟩
end Go.Proofs.YtojnnemodikpeaaDoor
