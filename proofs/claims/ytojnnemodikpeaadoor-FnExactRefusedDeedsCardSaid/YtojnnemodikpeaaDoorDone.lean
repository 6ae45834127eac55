/-
  A line of the reference, and what a deed does with it: l1Done.
-/
import Derived.Test.YtojnnemodikpeaaDoorLineM
import Derived.Test.YtojnnemodikpeaaDoorDec
import Derived.Test.YtojnnemodikpeaaDoorStrS
import Derived.Test.YtojnnemodikpeaaDoorApp
import Derived.Deep.RegionWith
import Derived.Deep.AppendSrc
import Derived.OwnWalk
namespace Go.Proofs.YtojnnemodikpeaaDoor
open Go.RowKit
set_option linter.unusedVariables false
structure LnV where
  room : Int
  AH : Option Addr
  nH : Nat
  cH : Nat
  ended : Bool
  AT : Option Addr
  nT : Nat
  cT : Nat
def LnV.cells (v : LnV) : List Value := [.int .i64 v.room, .slice v.AH v.nH v.cH, .bool v.ended, .slice v.AT v.nT v.cT]
/-- The value v stands for the line l: its slices lie in blocks of P. -/
structure LnOk (w : World) (P : Nat → Prop) (v : LnV) (l : Ln) : Prop where
  room : v.room = l.room
  ended : v.ended = l.ended
  held : Slc w 0 w.heap.size 1 v.AH v.nH v.cH (ints l.held)
  taken : Slc w 0 w.heap.size 1 v.AT v.nT v.cT (ints l.taken)
  heldP : ∀ b off, 0 < v.nH → v.AH = some ⟨b, off, none⟩ → P b
  takenP : ∀ b off, 0 < v.nT → v.AT = some ⟨b, off, none⟩ → P b
theorem LnOk.below {w w' : World} {P : Nat → Prop} {v : LnV} {l : Ln} (h : LnOk w P v l) (hb : Below w.heap.size w w') : LnOk w' P v l :=
  ⟨h.room, h.ended, (h.held.below hb).wide (Nat.le_refl _) hb.size, (h.taken.below hb).wide (Nat.le_refl _) hb.size, h.heldP, h.takenP⟩
theorem Slc.inP {w : World} {lo hi s n c : Nat} {A : Option Addr} {xs : List Value} {P : Nat → Prop} (h : Slc w lo hi s A n c xs) (hP : ∀ b, lo ≤ b → P b) : ∀ b off, 0 < n → A = some ⟨b, off, none⟩ → P b := by
  intro b off hn e
  obtain ⟨b', off', e', h1, _⟩ := h.at_ hn
  rw [e] at e'; injection e' with e'; injection e' with e1 e2; subst e1
  exact hP _ h1
/-- Numbers small enough to reckon with. -/
structure LnSmall (l : Ln) : Prop where
  held : l.held.length ≤ 1000
  taken : l.taken.length ≤ 1000
  words : ∀ x ∈ l.held, 0 ≤ x ∧ x ≤ 1000
/-- Its slices are not nil. -/
def LnV.full (v : LnV) : Prop := (∃ b off, v.AH = some ⟨b, off, none⟩) ∧ ∃ b off, v.AT = some ⟨b, off, none⟩
def DoneSays (w : World) (P : Nat → Prop) (v : LnV) (l : Ln) (d : DeedD) (e : Ending) (w' : World) : Prop :=
  ∃ v' : LnV, e = .returned (.tuple #[.agg v'.cells.toArray, .string ⟨(doneF l d).2.toArray⟩]) ∧ LnOk w' P v' (doneF l d).1 ∧ Below w.heap.size w w' ∧ (v.full → v'.full)
set_option maxHeartbeats 2000000 in
theorem done_look (v : LnV) (l : Ln) (d : DeedD) (w : World) (P : Nat → Prop) (h : LnOk w P v l) (hs : LnSmall l) (hd : d.act.toList = lookA) :
    Calls Tryd.prog 85 #[.agg #[.int .i64 v.room, .slice v.AH v.nH v.cH, .bool v.ended, .slice v.AT v.nT v.cT], .agg #[.string d.act, .int .i64 d.a, .int .i64 d.b]] w (DoneSays w P v l d) := by
  have hF : doneF l d = (l, Lib.itoa l.held.length) := by unfold doneF; rw [if_pos hd]
  have HF := Lib.hid hF
  have hn := h.held.length
  have hs1 := hs.held
  rw [hn] at hs1
  have HN := Lib.hid hn
  have HO := Lib.hid h
  clear hF hn h hs
  obtain ⟨s, x, y⟩ := d
  obtain ⟨r, A, n, c, t, A', n', c'⟩ := v
  have hd' : (s.toList == [108, 111, 111, 107]) = true := by rw [beq_iff_eq]; exact hd
  clear hd
  have hs2 : n ≤ 100000000 := Nat.le_trans hs1 (by omega)
  clear hs1
  go_enter Tryd.func85, Tryd.ntmps85
  go_wp2_with fail
  obtain ⟨W, hW⟩ : ∃ W, W = ((w.alloc (.cells #[.int .i64 r, .slice A n c, .bool t, .slice A' n' c'] 71)).alloc (.cells #[.string s, .int .i64 x, .int .i64 y] 46)).alloc (.cells #[.int .i64 0, .slice none 0 0, .bool false, .slice none 0 0] 71) := ⟨_, rfl⟩
  rw [← hW]
  have kl : W.heap[w.heap.size]? = some (.cells #[.int .i64 r, .slice A n c, .bool t, .slice A' n' c'] 71) := by rw [hW]; exact blk_alloc (blk_alloc (heap_alloc_new _ _) _) _
  have kr : W.heap[w.heap.size + 1 + 1]? = some (.cells #[.int .i64 0, .slice none 0 0, .bool false, .slice none 0 0] 71) := by rw [hW]; exact heap_new' _ _ (by simp)
  have B : Below w.heap.size w W := by rw [hW]; exact below_al (below_al (below_al (Below.refl _ _) _) _) _
  have zr := blk_lt kr
  clear hW
  have el := blk_cell kl
  have er := blk_cell kr
  have fr := blk_frozen' kr
  go_region_with (first
    | (go_at_call 97; refine (l11Dec_any n hs2 _).mono ?_; rintro e W2 ⟨rfl, b2⟩; obtain ⟨kl, zl⟩ := blk_below b2 (by first | exact kl | (apply blk_drew; exact kl)); obtain ⟨kr, zr⟩ := blk_below b2 (by first | exact kr | (apply blk_drew; exact kr)); have el := blk_cell kl; have er := blk_cell kr; have fr := blk_frozen' kr; have B := below_step (by first | exact B | (apply below_drew; exact B)) b2))
  all_goals
    go_wp2
    refine bodyPost_ret (v := .tuple #[.agg #[.int .i64 r, .slice A n c, .bool t, .slice A' n' c'], .string ⟨(Lib.itoa n).toArray⟩]) ?_ rfl ⟨⟨r, A, n, c, t, A', n', c'⟩, ?_, ?_, ?_, fun hf => hf⟩
    · simp [results, Tryd.results85, go_sem, er]
    · rw [HF.out, HN.out]; rfl
    · rw [HF.out]; exact HO.out.below (((((B.setCell (by simp; omega) _).setCell (by simp; omega) _).setCell (by simp; omega) _).setCell (by simp; omega) _))
    · exact ((((B.setCell (by simp; omega) _).setCell (by simp; omega) _).setCell (by simp; omega) _).setCell (by simp; omega) _)
set_option maxHeartbeats 2000000 in
theorem done_never (v : LnV) (l : Ln) (d : DeedD) (w : World) (P : Nat → Prop) (h : LnOk w P v l) (hs : LnSmall l) (hl : ¬ d.act.toList = lookA) (hd : d.a = 0) :
    Calls Tryd.prog 85 #[.agg #[.int .i64 v.room, .slice v.AH v.nH v.cH, .bool v.ended, .slice v.AT v.nT v.cT], .agg #[.string d.act, .int .i64 d.a, .int .i64 d.b]] w (DoneSays w P v l d) := by
  have hF : doneF l d = (l, tNever) := by
    unfold doneF; rw [if_neg hl, if_pos hd]
  have HF := Lib.hid hF
  have hn := h.held.length
  have hs1 := hs.held
  rw [hn] at hs1
  have hro := h.room
  have hen := h.ended
  have HO := Lib.hid h
  clear hF h hs
  obtain ⟨s, x, y⟩ := d
  obtain ⟨r, A, n, c, t, A', n', c'⟩ := v
  obtain ⟨lr, lh, le, lt⟩ := l
  subst hro hen
  have h1 : (s.toList == [108, 111, 111, 107]) = false := by rw [beq_eq_false_iff_ne]; exact hl
  have hx : x = 0 := hd
  subst hx
  clear hl hd
  go_enter Tryd.func85, Tryd.ntmps85
  go_wp2
  refine bodyPost_ret (v := .tuple #[.agg #[.int .i64 r, .slice A n c, .bool t, .slice A' n' c'], .string ⟨tNever.toArray⟩]) ?_ rfl ⟨⟨r, A, n, c, t, A', n', c'⟩, ?_, ?_, ?_, fun hf => hf⟩
  · simp [results, Tryd.results85, go_sem, tNever]
  · rw [HF.out]; rfl
  · rw [HF.out]; exact HO.out.below (below_al (below_al (below_al (Below.refl _ _) _) _) _)
  · exact (below_al (below_al (below_al (Below.refl _ _) _) _) _)
set_option maxHeartbeats 2000000 in
theorem done_ended (v : LnV) (l : Ln) (d : DeedD) (w : World) (P : Nat → Prop) (h : LnOk w P v l) (hs : LnSmall l) (hl : ¬ d.act.toList = lookA) (hd : ¬ d.a = 0) (ht : d.act.toList = takeA → l.held = []) (he : l.ended = true) :
    Calls Tryd.prog 85 #[.agg #[.int .i64 v.room, .slice v.AH v.nH v.cH, .bool v.ended, .slice v.AT v.nT v.cT], .agg #[.string d.act, .int .i64 d.a, .int .i64 d.b]] w (DoneSays w P v l d) := by
  have hF : doneF l d = (l, tEnded) := by
    unfold doneF; rw [if_neg hl, if_neg hd]
    cases hb : (d.act.toList == takeA)
    · simp [he]
    · rw [ht (eq_of_beq hb)]; simp [he]
  have HF := Lib.hid hF
  have hn := h.held.length
  have hs1 := hs.held
  rw [hn] at hs1
  have hro := h.room
  have hen := h.ended
  have HO := Lib.hid h
  clear hF h hs
  obtain ⟨s, x, y⟩ := d
  obtain ⟨r, A, n, c, t, A', n', c'⟩ := v
  obtain ⟨lr, lh, le, lt⟩ := l
  subst hro hen
  have h1 : (s.toList == [108, 111, 111, 107]) = false := by rw [beq_eq_false_iff_ne]; exact hl
  have h2 : (x == 0) = false := by rw [beq_eq_false_iff_ne]; exact hd
  have he' : t = true := he
  subst he'
  have h3 : ((s.toList == [116, 97, 107, 101]) = true ∧ n = 0) ∨ (s.toList == [116, 97, 107, 101]) = false := by
    cases hb : (s.toList == [116, 97, 107, 101])
    · exact .inr rfl
    · exact .inl ⟨rfl, by have := ht (eq_of_beq hb); simp only at this; subst this; simpa using hn.symm⟩
  clear hl hd ht he hn
  rcases h3 with ⟨h3, rfl⟩ | h3
  · go_enter Tryd.func85, Tryd.ntmps85
    go_wp2
    refine bodyPost_ret (v := .tuple #[.agg #[.int .i64 r, .slice A 0 c, .bool true, .slice A' n' c'], .string ⟨tEnded.toArray⟩]) ?_ rfl ⟨⟨r, A, 0, c, true, A', n', c'⟩, ?_, ?_, ?_, fun hf => hf⟩
    · simp [results, Tryd.results85, go_sem, tEnded]
    · rw [HF.out]; rfl
    · rw [HF.out]; exact HO.out.below (below_al (below_al (below_al (Below.refl _ _) _) _) _)
    · exact (below_al (below_al (below_al (Below.refl _ _) _) _) _)
  · go_enter Tryd.func85, Tryd.ntmps85
    go_wp2
    refine bodyPost_ret (v := .tuple #[.agg #[.int .i64 r, .slice A n c, .bool true, .slice A' n' c'], .string ⟨tEnded.toArray⟩]) ?_ rfl ⟨⟨r, A, n, c, true, A', n', c'⟩, ?_, ?_, ?_, fun hf => hf⟩
    · simp [results, Tryd.results85, go_sem, tEnded]
    · rw [HF.out]; rfl
    · rw [HF.out]; exact HO.out.below (below_al (below_al (below_al (Below.refl _ _) _) _) _)
    · exact (below_al (below_al (below_al (Below.refl _ _) _) _) _)
set_option maxHeartbeats 2000000 in
theorem done_empty (v : LnV) (l : Ln) (d : DeedD) (w : World) (P : Nat → Prop) (h : LnOk w P v l) (hs : LnSmall l) (hd : ¬ d.a = 0) (ht : d.act.toList = takeA) (hh : l.held = []) (he : l.ended = false) :
    Calls Tryd.prog 85 #[.agg #[.int .i64 v.room, .slice v.AH v.nH v.cH, .bool v.ended, .slice v.AT v.nT v.cT], .agg #[.string d.act, .int .i64 d.a, .int .i64 d.b]] w (DoneSays w P v l d) := by
  have hF : doneF l d = (l, tEmpty) := by
    unfold doneF
    rw [if_neg (by rw [ht]; simp [takeA, lookA]), if_neg hd, ht, hh]; simp [he]
  have HF := Lib.hid hF
  have hn := h.held.length
  have hs1 := hs.held
  rw [hn] at hs1
  have hro := h.room
  have hen := h.ended
  have HO := Lib.hid h
  clear hF h hs
  obtain ⟨s, x, y⟩ := d
  obtain ⟨r, A, n, c, t, A', n', c'⟩ := v
  obtain ⟨lr, lh, le, lt⟩ := l
  subst hro hen
  have hs' : s.toList = takeA := ht
  have h1 : (s.toList == [108, 111, 111, 107]) = false := by rw [hs']; rfl
  have h2 : (x == 0) = false := by rw [beq_eq_false_iff_ne]; exact hd
  have h3 : (s.toList == [116, 97, 107, 101]) = true := by rw [hs']; rfl
  have he' : t = false := he
  have hh' : lh = [] := hh
  subst he' hh'
  have hn' : n = 0 := by simpa using hn.symm
  subst hn'
  clear hd ht he hh hn hs'
  go_enter Tryd.func85, Tryd.ntmps85
  go_wp2
  refine bodyPost_ret (v := .tuple #[.agg #[.int .i64 r, .slice A 0 c, .bool false, .slice A' n' c'], .string ⟨tEmpty.toArray⟩]) ?_ rfl ⟨⟨r, A, 0, c, false, A', n', c'⟩, ?_, ?_, ?_, fun hf => hf⟩
  · simp [results, Tryd.results85, go_sem, tEmpty]
  · rw [HF.out]; rfl
  · rw [HF.out]; exact HO.out.below (below_al (below_al (below_al (Below.refl _ _) _) _) _)
  · exact (below_al (below_al (below_al (Below.refl _ _) _) _) _)
set_option maxHeartbeats 2000000 in
theorem done_end (v : LnV) (l : Ln) (d : DeedD) (w : World) (P : Nat → Prop) (h : LnOk w P v l) (hs : LnSmall l) (hd : ¬ d.a = 0) (ht : d.act.toList = endA) (he : l.ended = false) :
    Calls Tryd.prog 85 #[.agg #[.int .i64 v.room, .slice v.AH v.nH v.cH, .bool v.ended, .slice v.AT v.nT v.cT], .agg #[.string d.act, .int .i64 d.a, .int .i64 d.b]] w (DoneSays w P v l d) := by
  have hF : doneF l d = ({ l with ended := true }, tEnd) := by
    unfold doneF
    rw [if_neg (by rw [ht]; simp [endA, lookA]), if_neg hd, ht]
    cases l.held <;> simp [he, endA, takeA]
  have HF := Lib.hid hF
  have hn := h.held.length
  have hs1 := hs.held
  rw [hn] at hs1
  have hro := h.room
  have hen := h.ended
  have HO := Lib.hid h
  clear hF h hs
  obtain ⟨s, x, y⟩ := d
  obtain ⟨r, A, n, c, t, A', n', c'⟩ := v
  obtain ⟨lr, lh, le, lt⟩ := l
  subst hro hen
  have hs' : s.toList = endA := ht
  have h1 : (s.toList == [108, 111, 111, 107]) = false := by rw [hs']; rfl
  have h2 : (x == 0) = false := by rw [beq_eq_false_iff_ne]; exact hd
  have h3 : (s.toList == [116, 97, 107, 101]) = false := by rw [hs']; rfl
  have h4 : (s.toList == [101, 110, 100]) = true := by rw [hs']; rfl
  have he' : t = false := he
  subst he'
  clear hd ht he hs' hn
  go_enter Tryd.func85, Tryd.ntmps85
  go_wp2
  refine bodyPost_ret (v := .tuple #[.agg #[.int .i64 r, .slice A n c, .bool true, .slice A' n' c'], .string ⟨tEnd.toArray⟩]) ?_ rfl ⟨⟨r, A, n, c, true, A', n', c'⟩, ?_, ?_, ?_, fun hf => hf⟩
  · simp [results, Tryd.results85, go_sem, tEnd]
  · rw [HF.out]; rfl
  · rw [HF.out]; exact ⟨rfl, rfl, (HO.out.below (below_al (below_al (below_al (Below.refl _ _) _) _) _)).held, (HO.out.below (below_al (below_al (below_al (Below.refl _ _) _) _) _)).taken, HO.out.heldP, HO.out.takenP⟩
  · exact (below_al (below_al (below_al (Below.refl _ _) _) _) _)
set_option maxHeartbeats 2000000 in
theorem done_full (v : LnV) (l : Ln) (d : DeedD) (w : World) (P : Nat → Prop) (h : LnOk w P v l) (hs : LnSmall l) (hd : ¬ d.a = 0) (ht : d.act.toList = putA) (he : l.ended = false) (hr : l.room ≤ l.held.length) :
    Calls Tryd.prog 85 #[.agg #[.int .i64 v.room, .slice v.AH v.nH v.cH, .bool v.ended, .slice v.AT v.nT v.cT], .agg #[.string d.act, .int .i64 d.a, .int .i64 d.b]] w (DoneSays w P v l d) := by
  have hF : doneF l d = (l, tFull) := by
    unfold doneF
    rw [if_neg (by rw [ht]; simp [putA, lookA]), if_neg hd, ht]
    cases hc : l.held <;> (rw [hc] at hr; simp [he, putA, takeA, endA]; simp at hr; intro hx; omega)
  have HF := Lib.hid hF
  have hn := h.held.length
  have hs1 := hs.held
  rw [hn] at hs1
  have hro := h.room
  have hen := h.ended
  have HO := Lib.hid h
  clear hF h hs
  obtain ⟨s, x, y⟩ := d
  obtain ⟨r, A, n, c, t, A', n', c'⟩ := v
  obtain ⟨lr, lh, le, lt⟩ := l
  subst hro hen
  have hs' : s.toList = putA := ht
  have h1 : (s.toList == [108, 111, 111, 107]) = false := by rw [hs']; rfl
  have h2 : (x == 0) = false := by rw [beq_eq_false_iff_ne]; exact hd
  have h3 : (s.toList == [116, 97, 107, 101]) = false := by rw [hs']; rfl
  have h4 : (s.toList == [101, 110, 100]) = false := by rw [hs']; rfl
  have he' : t = false := he
  subst he'
  have hr' : r ≤ n := by have h0 := hr; have h9 := hn; simp only at h0 h9; omega
  clear hd ht he hs' hn hr
  go_enter Tryd.func85, Tryd.ntmps85
  go_wp2
  refine bodyPost_ret (v := .tuple #[.agg #[.int .i64 r, .slice A n c, .bool false, .slice A' n' c'], .string ⟨tFull.toArray⟩]) ?_ rfl ⟨⟨r, A, n, c, false, A', n', c'⟩, ?_, ?_, ?_, fun hf => hf⟩
  · simp [results, Tryd.results85, go_sem, tFull]
  · rw [HF.out]; rfl
  · rw [HF.out]; exact HO.out.below (below_al (below_al (below_al (Below.refl _ _) _) _) _)
  · exact (below_al (below_al (below_al (Below.refl _ _) _) _) _)
end Go.Proofs.YtojnnemodikpeaaDoor
