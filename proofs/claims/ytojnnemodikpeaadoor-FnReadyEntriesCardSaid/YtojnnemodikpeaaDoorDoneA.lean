/-
  A line of the reference, and what a deed does with it: l1Done.
  l1Done: a number put into a line.
  l1Done: a number taken from a line.
-/
import Derived.Test.YtojnnemodikpeaaDoorLineM
import Derived.Test.YtojnnemodikpeaaDoorDec
import Derived.Test.YtojnnemodikpeaaDoorStrS
import Derived.Test.YtojnnemodikpeaaDoorApp
import Derived.Deep.RegionWith
import Derived.Deep.AppendSrc
import Derived.OwnWalk
import Derived.Deep.CutRange
namespace Go.Proofs.YtojnnemodikpeaaDoor
open Go.RowKit
set_option linter.unusedVariables false
structure LnV where
  room : Int
  AH : Option Addr
  nH : Nat
  cH : Nat
  ended : Bool
  AT : Option Addr
  nT : Nat
  cT : Nat
def LnV.cells (v : LnV) : List Value := [.int .i64 v.room, .slice v.AH v.nH v.cH, .bool v.ended, .slice v.AT v.nT v.cT]
/-- The value v stands for the line l: its slices lie in blocks of P. -/
structure LnOk (w : World) (P : Nat → Prop) (v : LnV) (l : Ln) : Prop where
  room : v.room = l.room
  ended : v.ended = l.ended
  held : Slc w 0 w.heap.size 1 v.AH v.nH v.cH (ints l.held)
  taken : Slc w 0 w.heap.size 1 v.AT v.nT v.cT (ints l.taken)
  heldP : ∀ b off, 0 < v.nH → v.AH = some ⟨b, off, none⟩ → P b
  takenP : ∀ b off, 0 < v.nT → v.AT = some ⟨b, off, none⟩ → P b
theorem LnOk.below {w w' : World} {P : Nat → Prop} {v : LnV} {l : Ln} (h : LnOk w P v l) (hb : Below w.heap.size w w') : LnOk w' P v l :=
  ⟨h.room, h.ended, (h.held.below hb).wide (Nat.le_refl _) hb.size, (h.taken.below hb).wide (Nat.le_refl _) hb.size, h.heldP, h.takenP⟩
theorem Slc.inP {w : World} {lo hi s n c : Nat} {A : Option Addr} {xs : List Value} {P : Nat → Prop} (h : Slc w lo hi s A n c xs) (hP : ∀ b, lo ≤ b → P b) : ∀ b off, 0 < n → A = some ⟨b, off, none⟩ → P b := by
  intro b off hn e
  obtain ⟨b', off', e', h1, _⟩ := h.at_ hn
  rw [e] at e'; injection e' with e'; injection e' with e1 e2; subst e1
  exact hP _ h1
/-- Numbers small enough to reckon with. -/
structure LnSmall (l : Ln) : Prop where
  held : l.held.length ≤ 1000
  taken : l.taken.length ≤ 1000
  words : ∀ x ∈ l.held, 0 ≤ x ∧ x ≤ 1000
/-- Its slices are not nil. -/
def LnV.full (v : LnV) : Prop := (∃ b off, v.AH = some ⟨b, off, none⟩) ∧ ∃ b off, v.AT = some ⟨b, off, none⟩
def DoneSays (w : World) (P : Nat → Prop) (v : LnV) (l : Ln) (d : DeedD) (e : Ending) (w' : World) : Prop :=
  ∃ v' : LnV, e = .returned (.tuple #[.agg v'.cells.toArray, .string ⟨(doneF l d).2.toArray⟩]) ∧ LnOk w' P v' (doneF l d).1 ∧ Below w.heap.size w w' ∧ (v.full → v'.full)
set_option maxHeartbeats 2000000 in
theorem done_look (v : LnV) (l : Ln) (d : DeedD) (w : World) (P : Nat → Prop) (h : LnOk w P v l) (hs : LnSmall l) (hd : d.act.toList = lookA) :
    Calls Tryd.prog 85 #[.agg #[.int .i64 v.room, .slice v.AH v.nH v.cH, .bool v.ended, .slice v.AT v.nT v.cT], .agg #[.string d.act, .int .i64 d.a, .int .i64 d.b]] w (DoneSays w P v l d) := by
  have hF : doneF l d = (l, Lib.itoa l.held.length) := by unfold doneF; rw [if_pos hd]
  have HF := Lib.hid hF
  have hn := h.held.length
  have hs1 := hs.held
  rw [hn] at hs1
  have HN := Lib.hid hn
  have HO := Lib.hid h
  clear hF hn h hs
  obtain ⟨s, x, y⟩ := d
  obtain ⟨r, A, n, c, t, A', n', c'⟩ := v
  have hd' : (s.toList == [108, 111, 111, 107]) = true := by rw [beq_iff_eq]; exact hd
  clear hd
  have hs2 : n ≤ 100000000 := Nat.le_trans hs1 (by omega)
  clear hs1
  go_enter Tryd.func85, Tryd.ntmps85
  go_wp2_with fail
  obtain ⟨W, hW⟩ : ∃ W, W = ((w.alloc (.cells #[.int .i64 r, .slice A n c, .bool t, .slice A' n' c'] 71)).alloc (.cells #[.string s, .int .i64 x, .int .i64 y] 46)).alloc (.cells #[.int .i64 0, .slice none 0 0, .bool false, .slice none 0 0] 71) := ⟨_, rfl⟩
  rw [← hW]
  have kl : W.heap[w.heap.size]? = some (.cells #[.int .i64 r, .slice A n c, .bool t, .slice A' n' c'] 71) := by rw [hW]; exact blk_alloc (blk_alloc (heap_alloc_new _ _) _) _
  have kr : W.heap[w.heap.size + 1 + 1]? = some (.cells #[.int .i64 0, .slice none 0 0, .bool false, .slice none 0 0] 71) := by rw [hW]; exact heap_new' _ _ (by simp)
  have B : Below w.heap.size w W := by rw [hW]; exact below_al (below_al (below_al (Below.refl _ _) _) _) _
  have zr := blk_lt kr
  clear hW
  have el := blk_cell kl
  have er := blk_cell kr
  have fr := blk_frozen' kr
  go_region_with (first
    | (go_at_call 97; refine (l11Dec_any n hs2 _).mono ?_; rintro e W2 ⟨rfl, b2⟩; obtain ⟨kl, zl⟩ := blk_below b2 (by first | exact kl | (apply blk_drew; exact kl)); obtain ⟨kr, zr⟩ := blk_below b2 (by first | exact kr | (apply blk_drew; exact kr)); have el := blk_cell kl; have er := blk_cell kr; have fr := blk_frozen' kr; have B := below_step (by first | exact B | (apply below_drew; exact B)) b2))
  all_goals
    go_wp2
    refine bodyPost_ret (v := .tuple #[.agg #[.int .i64 r, .slice A n c, .bool t, .slice A' n' c'], .string ⟨(Lib.itoa n).toArray⟩]) ?_ rfl ⟨⟨r, A, n, c, t, A', n', c'⟩, ?_, ?_, ?_, fun hf => hf⟩
    · simp [results, Tryd.results85, go_sem, er]
    · rw [HF.out, HN.out]; rfl
    · rw [HF.out]; exact HO.out.below (((((B.setCell (by simp; omega) _).setCell (by simp; omega) _).setCell (by simp; omega) _).setCell (by simp; omega) _))
    · exact ((((B.setCell (by simp; omega) _).setCell (by simp; omega) _).setCell (by simp; omega) _).setCell (by simp; omega) _)
set_option maxHeartbeats 2000000 in
theorem done_never (v : LnV) (l : Ln) (d : DeedD) (w : World) (P : Nat → Prop) (h : LnOk w P v l) (hs : LnSmall l) (hl : ¬ d.act.toList = lookA) (hd : d.a = 0) :
    Calls Tryd.prog 85 #[.agg #[.int .i64 v.room, .slice v.AH v.nH v.cH, .bool v.ended, .slice v.AT v.nT v.cT], .agg #[.string d.act, .int .i64 d.a, .int .i64 d.b]] w (DoneSays w P v l d) := by
  have hF : doneF l d = (l, tNever) := by
    unfold doneF; rw [if_neg hl, if_pos hd]
  have HF := Lib.hid hF
  have hn := h.held.length
  have hs1 := hs.held
  rw [hn] at hs1
  have hro := h.room
  have hen := h.ended
  have HO := Lib.hid h
  clear hF h hs
  obtain ⟨s, x, y⟩ := d
  obtain ⟨r, A, n, c, t, A', n', c'⟩ := v
  obtain ⟨lr, lh, le, lt⟩ := l
  subst hro hen
  have h1 : (s.toList == [108, 111, 111, 107]) = false := by rw [beq_eq_false_iff_ne]; exact hl
  have hx : x = 0 := hd
  subst hx
  clear hl hd
  go_enter Tryd.func85, Tryd.ntmps85
  go_wp2
  refine bodyPost_ret (v := .tuple #[.agg #[.int .i64 r, .slice A n c, .bool t, .slice A' n' c'], .string ⟨tNever.toArray⟩]) ?_ rfl ⟨⟨r, A, n, c, t, A', n', c'⟩, ?_, ?_, ?_, fun hf => hf⟩
  · simp [results, Tryd.results85, go_sem, tNever]
  · rw [HF.out]; rfl
  · rw [HF.out]; exact HO.out.below (below_al (below_al (below_al (Below.refl _ _) _) _) _)
  · exact (below_al (below_al (below_al (Below.refl _ _) _) _) _)
set_option maxHeartbeats 2000000 in
theorem done_ended (v : LnV) (l : Ln) (d : DeedD) (w : World) (P : Nat → Prop) (h : LnOk w P v l) (hs : LnSmall l) (hl : ¬ d.act.toList = lookA) (hd : ¬ d.a = 0) (ht : d.act.toList = takeA → l.held = []) (he : l.ended = true) :
    Calls Tryd.prog 85 #[.agg #[.int .i64 v.room, .slice v.AH v.nH v.cH, .bool v.ended, .slice v.AT v.nT v.cT], .agg #[.string d.act, .int .i64 d.a, .int .i64 d.b]] w (DoneSays w P v l d) := by
  have hF : doneF l d = (l, tEnded) := by
    unfold doneF; rw [if_neg hl, if_neg hd]
    cases hb : (d.act.toList == takeA)
    · simp [he]
    · rw [ht (eq_of_beq hb)]; simp [he]
  have HF := Lib.hid hF
  have hn := h.held.length
  have hs1 := hs.held
  rw [hn] at hs1
  have hro := h.room
  have hen := h.ended
  have HO := Lib.hid h
  clear hF h hs
  obtain ⟨s, x, y⟩ := d
  obtain ⟨r, A, n, c, t, A', n', c'⟩ := v
  obtain ⟨lr, lh, le, lt⟩ := l
  subst hro hen
  have h1 : (s.toList == [108, 111, 111, 107]) = false := by rw [beq_eq_false_iff_ne]; exact hl
  have h2 : (x == 0) = false := by rw [beq_eq_false_iff_ne]; exact hd
  have he' : t = true := he
  subst he'
  have h3 : ((s.toList == [116, 97, 107, 101]) = true ∧ n = 0) ∨ (s.toList == [116, 97, 107, 101]) = false := by
    cases hb : (s.toList == [116, 97, 107, 101])
    · exact .inr rfl
    · exact .inl ⟨rfl, by have := ht (eq_of_beq hb); simp only at this; subst this; simpa using hn.symm⟩
  clear hl hd ht he hn
  rcases h3 with ⟨h3, rfl⟩ | h3
  · go_enter Tryd.func85, Tryd.ntmps85
    go_wp2
    refine bodyPost_ret (v := .tuple #[.agg #[.int .i64 r, .slice A 0 c, .bool true, .slice A' n' c'], .string ⟨tEnded.toArray⟩]) ?_ rfl ⟨⟨r, A, 0, c, true, A', n', c'⟩, ?_, ?_, ?_, fun hf => hf⟩
    · simp [results, Tryd.results85, go_sem, tEnded]
    · rw [HF.out]; rfl
    · rw [HF.out]; exact HO.out.below (below_al (below_al (below_al (Below.refl _ _) _) _) _)
    · exact (below_al (below_al (below_al (Below.refl _ _) _) _) _)
  · go_enter Tryd.func85, Tryd.ntmps85
    go_wp2
    refine bodyPost_ret (v := .tuple #[.agg #[.int .i64 r, .slice A n c, .bool true, .slice A' n' c'], .string ⟨tEnded.toArray⟩]) ?_ rfl ⟨⟨r, A, n, c, true, A', n', c'⟩, ?_, ?_, ?_, fun hf => hf⟩
    · simp [results, Tryd.results85, go_sem, tEnded]
    · rw [HF.out]; rfl
    · rw [HF.out]; exact HO.out.below (below_al (below_al (below_al (Below.refl _ _) _) _) _)
    · exact (below_al (below_al (below_al (Below.refl _ _) _) _) _)
set_option maxHeartbeats 2000000 in
theorem done_empty (v : LnV) (l : Ln) (d : DeedD) (w : World) (P : Nat → Prop) (h : LnOk w P v l) (hs : LnSmall l) (hd : ¬ d.a = 0) (ht : d.act.toList = takeA) (hh : l.held = []) (he : l.ended = false) :
    Calls Tryd.prog 85 #[.agg #[.int .i64 v.room, .slice v.AH v.nH v.cH, .bool v.ended, .slice v.AT v.nT v.cT], .agg #[.string d.act, .int .i64 d.a, .int .i64 d.b]] w (DoneSays w P v l d) := by
  have hF : doneF l d = (l, tEmpty) := by
    unfold doneF
    rw [if_neg (by rw [ht]; simp [takeA, lookA]), if_neg hd, ht, hh]; simp [he]
  have HF := Lib.hid hF
  have hn := h.held.length
  have hs1 := hs.held
  rw [hn] at hs1
  have hro := h.room
  have hen := h.ended
  have HO := Lib.hid h
  clear hF h hs
  obtain ⟨s, x, y⟩ := d
  obtain ⟨r, A, n, c, t, A', n', c'⟩ := v
  obtain ⟨lr, lh, le, lt⟩ := l
  subst hro hen
  have hs' : s.toList = takeA := ht
  have h1 : (s.toList == [108, 111, 111, 107]) = false := by rw [hs']; rfl
  have h2 : (x == 0) = false := by rw [beq_eq_false_iff_ne]; exact hd
  have h3 : (s.toList == [116, 97, 107, 101]) = true := by rw [hs']; rfl
  have he' : t = false := he
  have hh' : lh = [] := hh
  subst he' hh'
  have hn' : n = 0 := by simpa using hn.symm
  subst hn'
  clear hd ht he hh hn hs'
  go_enter Tryd.func85, Tryd.ntmps85
  go_wp2
  refine bodyPost_ret (v := .tuple #[.agg #[.int .i64 r, .slice A 0 c, .bool false, .slice A' n' c'], .string ⟨tEmpty.toArray⟩]) ?_ rfl ⟨⟨r, A, 0, c, false, A', n', c'⟩, ?_, ?_, ?_, fun hf => hf⟩
  · simp [results, Tryd.results85, go_sem, tEmpty]
  · rw [HF.out]; rfl
  · rw [HF.out]; exact HO.out.below (below_al (below_al (below_al (Below.refl _ _) _) _) _)
  · exact (below_al (below_al (below_al (Below.refl _ _) _) _) _)
set_option maxHeartbeats 2000000 in
theorem done_end (v : LnV) (l : Ln) (d : DeedD) (w : World) (P : Nat → Prop) (h : LnOk w P v l) (hs : LnSmall l) (hd : ¬ d.a = 0) (ht : d.act.toList = endA) (he : l.ended = false) :
    Calls Tryd.prog 85 #[.agg #[.int .i64 v.room, .slice v.AH v.nH v.cH, .bool v.ended, .slice v.AT v.nT v.cT], .agg #[.string d.act, .int .i64 d.a, .int .i64 d.b]] w (DoneSays w P v l d) := by
  have hF : doneF l d = ({ l with ended := true }, tEnd) := by
    unfold doneF
    rw [if_neg (by rw [ht]; simp [endA, lookA]), if_neg hd, ht]
    cases l.held <;> simp [he, endA, takeA]
  have HF := Lib.hid hF
  have hn := h.held.length
  have hs1 := hs.held
  rw [hn] at hs1
  have hro := h.room
  have hen := h.ended
  have HO := Lib.hid h
  clear hF h hs
  obtain ⟨s, x, y⟩ := d
  obtain ⟨r, A, n, c, t, A', n', c'⟩ := v
  obtain ⟨lr, lh, le, lt⟩ := l
  subst hro hen
  have hs' : s.toList = endA := ht
  have h1 : (s.toList == [108, 111, 111, 107]) = false := by rw [hs']; rfl
  have h2 : (x == 0) = false := by rw [beq_eq_false_iff_ne]; exact hd
  have h3 : (s.toList == [116, 97, 107, 101]) = false := by rw [hs']; rfl
  have h4 : (s.toList == [101, 110, 100]) = true := by rw [hs']; rfl
  have he' : t = false := he
  subst he'
  clear hd ht he hs' hn
  go_enter Tryd.func85, Tryd.ntmps85
  go_wp2
  refine bodyPost_ret (v := .tuple #[.agg #[.int .i64 r, .slice A n c, .bool true, .slice A' n' c'], .string ⟨tEnd.toArray⟩]) ?_ rfl ⟨⟨r, A, n, c, true, A', n', c'⟩, ?_, ?_, ?_, fun hf => hf⟩
  · simp [results, Tryd.results85, go_sem, tEnd]
  · rw [HF.out]; rfl
  · rw [HF.out]; exact ⟨rfl, rfl, (HO.out.below (below_al (below_al (below_al (Below.refl _ _) _) _) _)).held, (HO.out.below (below_al (below_al (below_al (Below.refl _ _) _) _) _)).taken, HO.out.heldP, HO.out.takenP⟩
  · exact (below_al (below_al (below_al (Below.refl _ _) _) _) _)
set_option maxHeartbeats 2000000 in
theorem done_full (v : LnV) (l : Ln) (d : DeedD) (w : World) (P : Nat → Prop) (h : LnOk w P v l) (hs : LnSmall l) (hd : ¬ d.a = 0) (ht : d.act.toList = putA) (he : l.ended = false) (hr : l.room ≤ l.held.length) :
    Calls Tryd.prog 85 #[.agg #[.int .i64 v.room, .slice v.AH v.nH v.cH, .bool v.ended, .slice v.AT v.nT v.cT], .agg #[.string d.act, .int .i64 d.a, .int .i64 d.b]] w (DoneSays w P v l d) := by
  have hF : doneF l d = (l, tFull) := by
    unfold doneF
    rw [if_neg (by rw [ht]; simp [putA, lookA]), if_neg hd, ht]
    cases hc : l.held <;> (rw [hc] at hr; simp [he, putA, takeA, endA]; simp at hr; intro hx; omega)
  have HF := Lib.hid hF
  have hn := h.held.length
  have hs1 := hs.held
  rw [hn] at hs1
  have hro := h.room
  have hen := h.ended
  have HO := Lib.hid h
  clear hF h hs
  obtain ⟨s, x, y⟩ := d
  obtain ⟨r, A, n, c, t, A', n', c'⟩ := v
  obtain ⟨lr, lh, le, lt⟩ := l
  subst hro hen
  have hs' : s.toList = putA := ht
  have h1 : (s.toList == [108, 111, 111, 107]) = false := by rw [hs']; rfl
  have h2 : (x == 0) = false := by rw [beq_eq_false_iff_ne]; exact hd
  have h3 : (s.toList == [116, 97, 107, 101]) = false := by rw [hs']; rfl
  have h4 : (s.toList == [101, 110, 100]) = false := by rw [hs']; rfl
  have he' : t = false := he
  subst he'
  have hr' : r ≤ n := by have h0 := hr; have h9 := hn; simp only at h0 h9; omega
  clear hd ht he hs' hn hr
  go_enter Tryd.func85, Tryd.ntmps85
  go_wp2
  refine bodyPost_ret (v := .tuple #[.agg #[.int .i64 r, .slice A n c, .bool false, .slice A' n' c'], .string ⟨tFull.toArray⟩]) ?_ rfl ⟨⟨r, A, n, c, false, A', n', c'⟩, ?_, ?_, ?_, fun hf => hf⟩
  · simp [results, Tryd.results85, go_sem, tFull]
  · rw [HF.out]; rfl
  · rw [HF.out]; exact HO.out.below (below_al (below_al (below_al (Below.refl _ _) _) _) _)
  · exact (below_al (below_al (below_al (Below.refl _ _) _) _) _)
end Go.Proofs.YtojnnemodikpeaaDoor
namespace Go.Proofs.YtojnnemodikpeaaDoor
open Go.RowKit
set_option linter.unusedVariables false
theorem ln_two {w2 w' : World} {P : Nat → Prop} {a H : Nat} {v : LnV} {l : Ln} (hr : v.room = l.room) (he : v.ended = l.ended) (hh : Slc w2 H w2.heap.size 1 v.AH v.nH v.cH (ints l.held)) (ht : Slc w2 0 a 1 v.AT v.nT v.cT (ints l.taken))
    (htP : ∀ b off, 0 < v.nT → v.AT = some ⟨b, off, none⟩ → P b) (hP : ∀ b, H ≤ b → P b) (ha : a ≤ w2.heap.size) (hk : Chg a H w2 w') : LnOk w' P v l :=
  ⟨hr, he, (hh.chg hk (.inr (Nat.le_refl _))).wide (Nat.zero_le _) hk.size, (ht.chg hk (.inl (Nat.le_refl _))).wide (Nat.le_refl _) (Nat.le_trans ha hk.size), hh.inP hP, htP⟩
theorem ints_snoc (xs : List Int) (y : Int) : ints xs ++ [.int .i64 y] = ints (xs ++ [y]) := by simp [ints]
set_option maxHeartbeats 4000000 in
theorem done_put (v : LnV) (l : Ln) (d : DeedD) (w : World) (P : Nat → Prop) (h : LnOk w P v l) (hs : LnSmall l) (hd : ¬ d.a = 0) (ht : d.act.toList = putA) (he : l.ended = false) (hr : ¬ l.room ≤ l.held.length) (hP : ∀ b, w.heap.size ≤ b → P b) (hf : v.full) :
    Calls Tryd.prog 85 #[.agg #[.int .i64 v.room, .slice v.AH v.nH v.cH, .bool v.ended, .slice v.AT v.nT v.cT], .agg #[.string d.act, .int .i64 d.a, .int .i64 d.b]] w (DoneSays w P v l d) := by
  have hF : doneF l d = ({ l with held := l.held ++ [d.b] }, tPut) := by
    unfold doneF
    rw [if_neg (by rw [ht]; simp [putA, lookA]), if_neg hd, ht]
    cases hc : l.held <;> (rw [hc] at hr; simp [he, putA, takeA, endA]; simp at hr; omega)
  have HF := Lib.hid hF
  have hn := h.held.length
  have hs1 := hs.held
  rw [hn] at hs1
  have hro := h.room
  have hen := h.ended
  have HO := Lib.hid h
  clear hF h hs
  obtain ⟨s, x, y⟩ := d
  obtain ⟨r, A, n, c, t, A', n', c'⟩ := v
  obtain ⟨lr, lh, le, lt⟩ := l
  subst hro hen
  have hs' : s.toList = putA := ht
  have h1 : (s.toList == [108, 111, 111, 107]) = false := by rw [hs']; rfl
  have h2 : (x == 0) = false := by rw [beq_eq_false_iff_ne]; exact hd
  have h3 : (s.toList == [116, 97, 107, 101]) = false := by rw [hs']; rfl
  have h4 : (s.toList == [101, 110, 100]) = false := by rw [hs']; rfl
  have he' : t = false := he
  subst he'
  have hr' : ¬ r ≤ n := by have h0 := hr; have h9 := hn; simp only at h0 h9; omega
  obtain ⟨⟨bh, oh, eh⟩, hf2⟩ := hf
  have eh' : A = some ⟨bh, oh, none⟩ := eh
  subst eh'
  have HF2 := Lib.hid hf2
  have hn' : lh.length = n := hn
  have hs1' : n ≤ 1000 := hs1
  have HN := Lib.hid (And.intro hn' hs1')
  have hcl : n ≤ c := HO.out.held.le
  have HC := Lib.hid hcl
  clear hd ht he hs' hn hr hs1 eh hf2 hn' hs1' hcl
  obtain ⟨i0, hi, hz0, hz1, hz2⟩ := info_parts info_int
  have HI := Lib.hid (And.intro hi (And.intro hz0 (And.intro hz1 hz2)))
  clear hi hz0 hz1 hz2
  go_enter Tryd.func85, Tryd.ntmps85
  go_upto_region 19 with fail
  obtain ⟨W, hW⟩ : ∃ W, W = ((w.alloc (.cells #[.int .i64 r, .slice (some ⟨bh, oh, none⟩) n c, .bool false, .slice A' n' c'] 71)).alloc (.cells #[.string s, .int .i64 x, .int .i64 y] 46)).alloc (.cells #[.int .i64 0, .slice none 0 0, .bool false, .slice none 0 0] 71) := ⟨_, rfl⟩
  rw [← hW]
  have kl : W.heap[w.heap.size]? = some (.cells #[.int .i64 r, .slice (some ⟨bh, oh, none⟩) n c, .bool false, .slice A' n' c'] 71) := by rw [hW]; exact blk_alloc (blk_alloc (heap_alloc_new _ _) _) _
  have kd : W.heap[w.heap.size + 1]? = some (.cells #[.string s, .int .i64 x, .int .i64 y] 46) := by rw [hW]; exact blk_alloc (heap_new' _ _ (by simp)) _
  have kr : W.heap[w.heap.size + 1 + 1]? = some (.cells #[.int .i64 0, .slice none 0 0, .bool false, .slice none 0 0] 71) := by rw [hW]; exact heap_new' _ _ (by simp)
  have B : Below w.heap.size w W := by rw [hW]; exact below_al (below_al (below_al (Below.refl _ _) _) _) _
  have zr := blk_lt kr
  have zd := blk_lt kd
  have zl := blk_lt kl
  have HK := Lib.hid (And.intro kl (And.intro kr (And.intro B kd)))
  clear hW
  have el := blk_cell kl
  have ed := blk_cell kd
  have fl := blk_frozen' kl
  clear kl kd kr B
  go_cut [] from 76 to 84 (fun wc => ∃ g2 c2 w2, wc = w2.setCell ⟨w.heap.size, 1, none⟩ (.slice (some ⟨g2, 0, none⟩) (n + 1) c2) ∧ w2.ownsRow W.heap.size 3 1 (.slice (some ⟨g2, 0, none⟩) (n + 1) c2) (n + 1) (ints lh ++ [.int .i64 y]) ∧ Below W.heap.size W w2)
  case first =>
    obtain ⟨hi, hz0, hz1, hz2⟩ := HI.out
    have HH := Lib.hid hi
    clear hi
    go_region_law (first
        | (refine step_app _ rfl (.tmp 76) (.tmp 78) 22 rfl W.heap.size 3 i0 (.int .i64 0) 1 8 Tryd.underlying22 HH.out hz0 hz1 hz2 rfl (by decide) (.slice (some ⟨_, 0, none⟩) 0 0) 0 [] rfl (row_empty ?c1 ?c2) (by simp) ⟨bh, oh, none⟩ n c (ints lh) rfl (by simp [ints, HN.out.1]) (HO.out.held.news ?c3) (ints_one _) ?c5 ?c6 ?c7 ?_; (case c1 => first | omega | (simp; done) | (simp; omega)); (case c2 => ((try with_reducible apply blk_drew); (first | with_reducible assumption | (with_reducible refine heap_new' _ _ ?_; simp) | (with_reducible refine blk_alloc ?_ _; first | with_reducible assumption | (with_reducible refine heap_new' _ _ ?_; simp)) | (with_reducible refine blk_alloc ?_ _; with_reducible refine blk_alloc ?_ _; first | with_reducible assumption | (with_reducible refine heap_new' _ _ ?_; simp)) | (with_reducible refine blk_alloc ?_ _; with_reducible refine blk_alloc ?_ _; with_reducible refine blk_alloc ?_ _; first | with_reducible assumption | (with_reducible refine heap_new' _ _ ?_; simp))))); (case c3 => (refine HK.out.2.2.1.trans (Below.mono (?_ : Below W.heap.size W _) (by omega)); (repeat' (first | with_reducible assumption | with_reducible exact Below.refl _ _ | with_reducible apply below_al | with_reducible apply below_drew)))); (case c5 => have := HN.out.2; unfold maxLen; omega); (case c6 => have := HN.out.2; omega); (case c7 => first | omega | (simp; done) | (simp; omega)); intro g1 c1 w1 hown1 hgr1 B1; simp only [Nat.zero_add, List.nil_append] at hown1; have HO1 := Lib.hid hown1; have HG1 := Lib.hid hgr1; have BW := (Below.trans (by (repeat' (first | with_reducible assumption | with_reducible exact Below.refl _ _ | with_reducible apply below_al | with_reducible apply below_drew))) B1 : Below W.heap.size W w1); have z1 := BW.size; have el := blk_cell ((BW.block _ zl).trans HK.out.1); have ed := blk_cell ((BW.block _ zd).trans HK.out.2.2.2); have fl := blk_frozen' ((BW.block _ zl).trans HK.out.1); have HB1 := Lib.hid BW; clear hown1 hgr1 B1 BW)
        | (refine step_app _ rfl (.tmp 79) (.tmp 82) 22 rfl W.heap.size 3 i0 (.int .i64 0) 1 8 Tryd.underlying22 HH.out hz0 hz1 hz2 rfl (by decide) (.slice (some ⟨g1, 0, none⟩) n c1) n (ints lh) rfl ?c1 (by simp) ⟨_, 0, none⟩ 1 1 [.int .i64 y] rfl rfl ?c2 (by simp [Value.oneCell']) ?c5 ?c6 ?c7 ?_; (case c1 => first | exact HO1.out | exact row_keep HO1.out (fun b hb => Below.heap_alloc _ _ b hb)); (case c2 => first | exact cell_one_new _ _ _ | exact World.news_of_block ((HG1.out.block _ (by first | (simp; done) | (simp; omega)) (by first | (simp [Value.ownBlock]; done) | (simp [Value.ownBlock]; omega))).trans (by ((try with_reducible apply blk_drew); (first | with_reducible assumption | (with_reducible refine heap_new' _ _ ?_; simp) | (with_reducible refine blk_alloc ?_ _; first | with_reducible assumption | (with_reducible refine heap_new' _ _ ?_; simp)) | (with_reducible refine blk_alloc ?_ _; with_reducible refine blk_alloc ?_ _; first | with_reducible assumption | (with_reducible refine heap_new' _ _ ?_; simp)) | (with_reducible refine blk_alloc ?_ _; with_reducible refine blk_alloc ?_ _; with_reducible refine blk_alloc ?_ _; first | with_reducible assumption | (with_reducible refine heap_new' _ _ ?_; simp))))))); (case c5 => have := HN.out.2; unfold maxLen; omega); (case c6 => have := HN.out.2; omega); (case c7 => first | omega | (simp; done) | (simp; omega)); intro g2 c2 w2 hown2 hgr2 B2; have HO2 := Lib.hid hown2; have BW := (Below.trans (by have := HB1.out; (repeat' (first | with_reducible assumption | with_reducible exact Below.refl _ _ | with_reducible apply below_al | with_reducible apply below_drew))) B2 : Below W.heap.size W w2); have z2 := BW.size; have kl := (BW.block _ zl).trans HK.out.1; have kr := (BW.block _ zr).trans HK.out.2.1; have el := blk_cell kl; have er := blk_cell kr; have fl := blk_frozen' kl; have fr := blk_frozen' kr; have HB2 := Lib.hid BW; have HKL := Lib.hid kl; clear hown2 hgr2 B2 BW kl kr))
    all_goals
      go_wp2_with fail
      go_meet
      exact ⟨g2, c2, w2, rfl, HO2.out, HB2.out⟩
  case rest =>
    obtain ⟨g2, c2, w2, rfl, ho2, hb2⟩ := hcut
    have hO2 := row_slc ho2 (by decide)
    have HO2 := Lib.hid hO2
    have z2 := hb2.size
    have HB2 := Lib.hid hb2
    have kl := (hb2.block _ zl).trans HK.out.1
    have kr := (hb2.block _ zr).trans HK.out.2.1
    have el := blk_cell kl
    have er := blk_cell kr
    have fl := blk_frozen' kl
    have fr := blk_frozen' kr
    have zl2 := blk_lt kl
    have zr2 := blk_lt kr
    clear kl kr ho2 hO2 hb2 ed
    go_wp2
    have hF := HF.out
    have hO2 := HO2.out
    have hC := HK.out.2.2.1.trans (HB2.out.mono (by omega))
    refine bodyPost_ret (v := .tuple #[.agg #[.int .i64 r, .slice (some ⟨g2, 0, none⟩) (n + 1) c2, .bool false, .slice A' n' c'], .string ⟨tPut.toArray⟩]) ?_ rfl ⟨⟨r, some ⟨g2, 0, none⟩, n + 1, c2, false, A', n', c'⟩, ?_, ?_, ?_, fun hf => ⟨⟨_, _, rfl⟩, hf.2⟩⟩
    · simp [results, Tryd.results85, go_sem, er, tPut]
    · rw [hF]; rfl
    · rw [hF]
      refine ln_two rfl rfl ?_ (HO.out.taken.below hC) HO.out.takenP (fun b hb => hP b (by omega)) hC.size (H := W.heap.size) (by (repeat' (first | with_reducible assumption | with_reducible exact Chg.refl _ _ _ | (with_reducible refine Chg.setCell ?_ (by first | omega | (simp; done) | (simp; omega)) (by first | omega | (simp; done) | (simp; omega)) _) | with_reducible apply Chg.alloc)))
      rw [← ints_snoc]; exact hO2
    · exact Below.chg hC (hi := W.heap.size) (by (repeat' (first | with_reducible assumption | with_reducible exact Chg.refl _ _ _ | (with_reducible refine Chg.setCell ?_ (by first | omega | (simp; done) | (simp; omega)) (by first | omega | (simp; done) | (simp; omega)) _) | with_reducible apply Chg.alloc))) (Nat.le_refl _)
end Go.Proofs.YtojnnemodikpeaaDoor
namespace Go.Proofs.YtojnnemodikpeaaDoor
open Go.RowKit
set_option linter.unusedVariables false
theorem Slc.belowHi {w w' : World} {lo hi s n c : Nat} {A : Option Addr} {xs : List Value} (h : Slc w lo hi s A n c xs) (hb : Below hi w w') : Slc w' lo hi s A n c xs :=
  h.keep hb.size fun b _ h2 _ => hb.block b h2
theorem ln_both {w2 w' : World} {P : Nat → Prop} {a H : Nat} {v : LnV} {l : Ln} (hr : v.room = l.room) (he : v.ended = l.ended) (hh : Slc w2 H w2.heap.size 1 v.AH v.nH v.cH (ints l.held)) (ht : Slc w2 H w2.heap.size 1 v.AT v.nT v.cT (ints l.taken))
    (hP : ∀ b, H ≤ b → P b) (hk : Chg a H w2 w') : LnOk w' P v l :=
  ⟨hr, he, (hh.chg hk (.inr (Nat.le_refl _))).wide (Nat.zero_le _) hk.size, (ht.chg hk (.inr (Nat.le_refl _))).wide (Nat.zero_le _) hk.size, hh.inP hP, ht.inP hP⟩
theorem Slc.tail {w : World} {lo c b off : Nat} {x : Int} {xs : List Int} (h : Slc w lo w.heap.size 1 (some ⟨b, off, none⟩) (xs.length + 1) c (ints (x :: xs))) :
    ∃ AD : Addr, (if c = 1 then some (⟨b, off, none⟩ : Addr) else some ⟨b, off + 1, none⟩) = some AD ∧ ∀ w', Below w.heap.size w w' → ∀ j u, (ints xs)[j]? = some u → w'.cell? (AD.add j) = some u := by
  by_cases hc : c = 1
  · have h1 := h.le
    have : xs = [] := List.eq_nil_of_length_eq_zero (by omega)
    subst this
    exact ⟨_, if_pos hc, fun _ _ j u hu => by simp [ints] at hu⟩
  · refine ⟨_, if_neg hc, fun w' hb j u hu => ?_⟩
    obtain ⟨b', off', e, _, _, h3, h4⟩ := h.at_ (by omega)
    injection e with e; injection e with e1 e2; subst e1 e2
    rw [Addr.add_lit]
    refine (World.cell?_of_block (hb.block b h3)).trans ?_
    have := h4 (j + 1) u (by simpa [ints] using hu)
    rw [show off + 1 + j = off + (j + 1) by omega]
    exact this
set_option maxRecDepth 20000 in
set_option maxHeartbeats 4000000 in
theorem done_take (v : LnV) (l : Ln) (d : DeedD) (w : World) (P : Nat → Prop) (h : LnOk w P v l) (hs : LnSmall l) (hd : ¬ d.a = 0) (ht : d.act.toList = takeA) (hne : ¬ l.held = []) (hP : ∀ b, w.heap.size ≤ b → P b) (hf : v.full) :
    Calls Tryd.prog 85 #[.agg #[.int .i64 v.room, .slice v.AH v.nH v.cH, .bool v.ended, .slice v.AT v.nT v.cT], .agg #[.string d.act, .int .i64 d.a, .int .i64 d.b]] w (DoneSays w P v l d) := by
  obtain ⟨lr, lh, le, lt⟩ := l
  obtain ⟨x0, xs, ehl⟩ : ∃ x0 xs, lh = x0 :: xs := by cases lh with
    | nil => exact absurd rfl hne
    | cons a b => exact ⟨a, b, rfl⟩
  subst ehl
  have hF : doneF ⟨lr, x0 :: xs, le, lt⟩ d = (⟨lr, xs, le, lt ++ [x0]⟩, tTook x0) := by
    unfold doneF
    rw [if_neg (by rw [ht]; simp [takeA, lookA]), if_neg hd, ht]
    simp
  have HF := Lib.hid hF
  have hn := h.held.length
  have hnT := h.taken.length
  have hs1 := hs.held
  have hsT := hs.taken
  obtain ⟨w0, w1⟩ := hs.words x0 (by simp)
  have hro := h.room
  have hen := h.ended
  have HO := Lib.hid h
  clear hF h hs
  obtain ⟨s, x, y⟩ := d
  obtain ⟨r, A, n, c, t, A', n', c'⟩ := v
  subst hro hen
  have hs' : s.toList = takeA := ht
  have h1 : (s.toList == [108, 111, 111, 107]) = false := by rw [hs']; rfl
  have h2 : (x == 0) = false := by rw [beq_eq_false_iff_ne]; exact hd
  have h3 : (s.toList == [116, 97, 107, 101]) = true := by rw [hs']; rfl
  obtain ⟨⟨bh, oh, eh⟩, ⟨bt, ot, et⟩⟩ := hf
  have eh' : A = some ⟨bh, oh, none⟩ := eh
  have et' : A' = some ⟨bt, ot, none⟩ := et
  subst eh' et'
  have hn' : n = xs.length + 1 := by simpa using hn.symm
  subst hn'
  have hnT' : lt.length = n' := hnT
  have hs1' : xs.length + 1 ≤ 1000 := by simpa using hs1
  have hsT' : n' ≤ 1000 := by rw [← hnT']; exact hsT
  have HN := Lib.hid (And.intro hnT' (And.intro hs1' hsT'))
  have hcl : xs.length + 1 ≤ c := HO.out.held.le
  have HC := Lib.hid hcl
  obtain ⟨b, off, v0, e1, _, _, hbz, hv0, hcell⟩ := HO.out.held.cellAt (k := 0) (by simp)
  injection e1 with e1; injection e1 with e1 e2; subst e1 e2
  have hv0' : x0 = v0 := by simpa using hv0
  subst hv0'
  simp only [Nat.add_zero] at hcell
  obtain ⟨X, rfl⟩ := Int.eq_ofNat_of_zero_le w0
  obtain ⟨AD, hAD, hnews⟩ := HO.out.held.tail
  have HNW := Lib.hid hnews
  clear hnews
  clear hd ht hs' hn hnT hs1 hsT eh et hs1' hsT' hne hv0
  obtain ⟨i0, hi, hz0, hz1, hz2⟩ := info_parts info_int
  have HI := Lib.hid (And.intro hi (And.intro hz0 (And.intro hz1 hz2)))
  clear hi hz0 hz1 hz2
  have hgt : (0 : Int) < (xs.length : Int) + 1 := by omega
  go_enter Tryd.func85, Tryd.ntmps85
  go_upto_region 6 with fail
  obtain ⟨W, hW⟩ : ∃ W, W = ((w.alloc (.cells #[.int .i64 r, .slice (some ⟨bh, oh, none⟩) (xs.length + 1) c, .bool t, .slice (some ⟨bt, ot, none⟩) n' c'] 71)).alloc (.cells #[.string s, .int .i64 x, .int .i64 y] 46)).alloc (.cells #[.int .i64 0, .slice none 0 0, .bool false, .slice none 0 0] 71) := ⟨_, rfl⟩
  rw [← hW]
  have kl : W.heap[w.heap.size]? = some (.cells #[.int .i64 r, .slice (some ⟨bh, oh, none⟩) (xs.length + 1) c, .bool t, .slice (some ⟨bt, ot, none⟩) n' c'] 71) := by rw [hW]; exact blk_alloc (blk_alloc (heap_alloc_new _ _) _) _
  have kr : W.heap[w.heap.size + 1 + 1]? = some (.cells #[.int .i64 0, .slice none 0 0, .bool false, .slice none 0 0] 71) := by rw [hW]; exact heap_new' _ _ (by simp)
  have B : Below w.heap.size w W := by rw [hW]; exact below_al (below_al (below_al (Below.refl _ _) _) _) _
  have zr := blk_lt kr
  have zl := blk_lt kl
  have HK := Lib.hid (And.intro kl (And.intro kr B))
  clear hW
  have el := blk_cell kl
  have fl := blk_frozen' kl
  have hcl2 := (B.cell (p := ⟨bh, oh, none⟩) hbz).trans hcell
  clear kl kr B hcell
  obtain ⟨hi, hz0, hz1, hz2⟩ := HI.out
  have HH := Lib.hid hi
  clear hi
  go_upto_region 8 with (at_builtin; refine wpList_app _ rfl (.tmp 35) (.tmp 38) 22 rfl W.heap.size 3 i0 (.int .i64 0) 1 8 Tryd.underlying22 HH.out hz0 hz1 hz2 rfl (by decide) (.slice (some ⟨W.heap.size, 0, none⟩) 0 0) 0 [] rfl (row_empty (Nat.le_refl _) ?c2) (by simp) AD xs.length _ (ints xs) rfl (by simp [ints]) (HNW.out _ ?c3) (ints_one _) ?c5 ?c6 ?c7 ?_; (case c2 => ((try with_reducible apply blk_drew); (first | with_reducible assumption | (with_reducible refine heap_new' _ _ ?_; simp) | (with_reducible refine blk_alloc ?_ _; first | with_reducible assumption | (with_reducible refine heap_new' _ _ ?_; simp)) | (with_reducible refine blk_alloc ?_ _; with_reducible refine blk_alloc ?_ _; first | with_reducible assumption | (with_reducible refine heap_new' _ _ ?_; simp)) | (with_reducible refine blk_alloc ?_ _; with_reducible refine blk_alloc ?_ _; with_reducible refine blk_alloc ?_ _; first | with_reducible assumption | (with_reducible refine heap_new' _ _ ?_; simp))))); (case c3 => (refine HK.out.2.2.trans (Below.mono (?_ : Below W.heap.size W _) (by omega)); (repeat' (first | with_reducible assumption | with_reducible exact Below.refl _ _ | with_reducible apply below_al | with_reducible apply below_drew)))); (case c5 => have := HN.out.2; unfold maxLen; omega); (case c6 => have := HN.out.2; omega); (case c7 => first | omega | (simp; done) | (simp; omega)); intro g1 c1 w1 hown1 hgr1 B1; simp only [Nat.zero_add, List.nil_append] at hown1; have BW := (Below.trans (by (repeat' (first | with_reducible assumption | with_reducible exact Below.refl _ _ | with_reducible apply below_al | with_reducible apply below_drew))) B1 : Below W.heap.size W w1); have z1 := BW.size; have kl := (BW.block _ zl).trans HK.out.1; have kr := (BW.block _ zr).trans HK.out.2.1; have zl1 := blk_lt kl; have zr1 := blk_lt kr; have el := blk_cell kl; have fl := blk_frozen' kl; have HB1 := Lib.hid BW; have S1 := row_slc hown1 (by decide); have HS1 := Lib.hid S1; have HKL := Lib.hid kl; have HKR := Lib.hid kr; clear hown1 hgr1 B1 BW S1 kl kr)
  have kl0 := blk_setCell (i := 1) HKL.out (.slice (some ⟨g1, 0, none⟩) xs.length c1)
  have kr0 := (Chg.setCell (Chg.refl w.heap.size (w.heap.size + 1) w1) (p := ⟨w.heap.size, 1, none⟩) (Nat.le_refl _) (Nat.lt_succ_self _) (.slice (some ⟨g1, 0, none⟩) xs.length c1)).block (w.heap.size + 1 + 1) (by omega) (by omega)
  have kr0 := kr0.trans HKR.out
  have B0 : Below w.heap.size w (w1.setCell ⟨w.heap.size, 1, none⟩ (.slice (some ⟨g1, 0, none⟩) xs.length c1)) := Below.chg (HK.out.2.2.trans (HB1.out.mono (by omega))) (hi := W.heap.size) (by (repeat' (first | with_reducible assumption | with_reducible exact Chg.refl _ _ _ | (with_reducible refine Chg.setCell ?_ (by first | omega | (simp; done) | (simp; omega)) (by first | omega | (simp; done) | (simp; omega)) _) | with_reducible apply Chg.alloc))) (Nat.le_refl _)
  have S10 : Slc (w1.setCell ⟨w.heap.size, 1, none⟩ (.slice (some ⟨g1, 0, none⟩) xs.length c1)) W.heap.size w1.heap.size 1 (some ⟨g1, 0, none⟩) xs.length c1 (ints xs) := HS1.out.chg (l' := w.heap.size) (h' := W.heap.size) (by (repeat' (first | with_reducible assumption | with_reducible exact Chg.refl _ _ _ | (with_reducible refine Chg.setCell ?_ (by first | omega | (simp; done) | (simp; omega)) (by first | omega | (simp; done) | (simp; omega)) _) | with_reducible apply Chg.alloc))) (.inr (Nat.le_refl _))
  have sz : (w1.setCell ⟨w.heap.size, 1, none⟩ (.slice (some ⟨g1, 0, none⟩) xs.length c1)).heap.size = w1.heap.size := by simp
  rw [← sz] at S10
  generalize w1.setCell ⟨w.heap.size, 1, none⟩ (.slice (some ⟨g1, 0, none⟩) xs.length c1) = V at kl0 kr0 B0 S10 sz ⊢
  have zW : W.heap.size ≤ V.heap.size := by omega
  simp only [List.setIfInBounds_toArray, List.set_cons_succ, List.set_cons_zero] at kl0
  have HKL := Lib.hid kl0
  have HKR := Lib.hid kr0
  have HBV := Lib.hid B0
  have HSV := Lib.hid S10
  have el := blk_cell kl0
  have fl := blk_frozen' kl0
  have zl := blk_lt kl0
  have zr := blk_lt kr0
  clear kl0 kr0 B0 S10 sz
  go_wp2_with (first
    | (at_builtin; refine wpList_app _ rfl (.tmp 41) (.tmp 43) 22 rfl V.heap.size 3 i0 (.int .i64 0) 1 8 Tryd.underlying22 HH.out hz0 hz1 hz2 rfl (by decide) (.slice (some ⟨V.heap.size, 0, none⟩) 0 0) 0 [] rfl (row_empty (Nat.le_refl _) ?c2) (by simp) ⟨bt, ot, none⟩ n' c' (ints lt) rfl (by have := HN.out.1; simp [ints]; exact this) (HO.out.taken.news ?c3) (ints_one _) ?c5 ?c6 ?c7 ?_; (case c2 => ((try with_reducible apply blk_drew); (first | with_reducible assumption | (with_reducible refine heap_new' _ _ ?_; simp) | (with_reducible refine blk_alloc ?_ _; first | with_reducible assumption | (with_reducible refine heap_new' _ _ ?_; simp)) | (with_reducible refine blk_alloc ?_ _; with_reducible refine blk_alloc ?_ _; first | with_reducible assumption | (with_reducible refine heap_new' _ _ ?_; simp)) | (with_reducible refine blk_alloc ?_ _; with_reducible refine blk_alloc ?_ _; with_reducible refine blk_alloc ?_ _; first | with_reducible assumption | (with_reducible refine heap_new' _ _ ?_; simp))))); (case c3 => (refine HBV.out.trans (Below.mono (?_ : Below V.heap.size V _) (by omega)); (repeat' (first | with_reducible assumption | with_reducible exact Below.refl _ _ | with_reducible apply below_al | with_reducible apply below_drew)))); (case c5 => have := HN.out.2; unfold maxLen; omega); (case c6 => have := HN.out.2; omega); (case c7 => first | omega | (simp; done) | (simp; omega)); intro g2 c2 w2 hown2 hgr2 B2; simp only [Nat.zero_add, List.nil_append] at hown2; have BW := (Below.trans (by (repeat' (first | with_reducible assumption | with_reducible exact Below.refl _ _ | with_reducible apply below_al | with_reducible apply below_drew))) B2 : Below V.heap.size V w2); have z2 := BW.size; have kl := (BW.block _ zl).trans HKL.out; have kr := (BW.block _ zr).trans HKR.out; have zl2 := blk_lt kl; have zr2 := blk_lt kr; have el := blk_cell kl; have fl := blk_frozen' kl; have HB2 := Lib.hid BW; have HO2 := Lib.hid hown2; clear hown2 hgr2 B2 BW kl kr)
    | (at_builtin; refine wpList_app _ rfl (.tmp 44) (.tmp 46) 22 rfl V.heap.size 3 i0 (.int .i64 0) 1 8 Tryd.underlying22 HH.out hz0 hz1 hz2 rfl (by decide) (.slice (some ⟨g2, 0, none⟩) n' c2) n' (ints lt) rfl (row_keep HO2.out (fun b hb => Below.heap_alloc _ _ b hb)) (by simp) ⟨_, 0, none⟩ 1 1 [.int .i64 X] rfl rfl (cell_one_new _ _ _) (by simp [Value.oneCell']) ?c5 ?c6 ?c7 ?_; (case c5 => have := HN.out.2; unfold maxLen; omega); (case c6 => have := HN.out.2; omega); (case c7 => first | omega | (simp; done) | (simp; omega)); intro g3 c3 w3 hown3 hgr3 B3; have BW := (Below.trans (by have := HB2.out; (repeat' (first | with_reducible assumption | with_reducible exact Below.refl _ _ | with_reducible apply below_al | with_reducible apply below_drew))) B3 : Below V.heap.size V w3); have z3 := BW.size; have kl := (BW.block _ zl).trans HKL.out; have kr := (BW.block _ zr).trans HKR.out; have zl3 := blk_lt kl; have zr3 := blk_lt kr; have el := blk_cell kl; have fl := blk_frozen' kl; have HB3 := Lib.hid BW; have HO3 := Lib.hid hown3; have HKL3 := Lib.hid kl; have HKR3 := Lib.hid kr; clear hown3 hgr3 B3 BW kl kr))
  have kl0 := blk_setCell (i := 3) HKL3.out (.slice (some ⟨g3, 0, none⟩) (n' + 1) c3)
  have kr0 := (Chg.setCell (Chg.refl w.heap.size (w.heap.size + 1) w3) (p := ⟨w.heap.size, 3, none⟩) (Nat.le_refl _) (Nat.lt_succ_self _) (.slice (some ⟨g3, 0, none⟩) (n' + 1) c3)).block (w.heap.size + 1 + 1) (by omega) (by omega)
  have kr0 := kr0.trans HKR3.out
  have B0 : Below w.heap.size w (w3.setCell ⟨w.heap.size, 3, none⟩ (.slice (some ⟨g3, 0, none⟩) (n' + 1) c3)) := Below.chg (HBV.out.trans (HB3.out.mono (by omega))) (hi := W.heap.size) (by (repeat' (first | with_reducible assumption | with_reducible exact Chg.refl _ _ _ | (with_reducible refine Chg.setCell ?_ (by first | omega | (simp; done) | (simp; omega)) (by first | omega | (simp; done) | (simp; omega)) _) | with_reducible apply Chg.alloc))) (Nat.le_refl _)
  have S10 : Slc (w3.setCell ⟨w.heap.size, 3, none⟩ (.slice (some ⟨g3, 0, none⟩) (n' + 1) c3)) W.heap.size V.heap.size 1 (some ⟨g1, 0, none⟩) xs.length c1 (ints xs) := (HSV.out.belowHi HB3.out).chg (l' := w.heap.size) (h' := W.heap.size) (by (repeat' (first | with_reducible assumption | with_reducible exact Chg.refl _ _ _ | (with_reducible refine Chg.setCell ?_ (by first | omega | (simp; done) | (simp; omega)) (by first | omega | (simp; done) | (simp; omega)) _) | with_reducible apply Chg.alloc))) (.inr (Nat.le_refl _))
  have S30 : Slc (w3.setCell ⟨w.heap.size, 3, none⟩ (.slice (some ⟨g3, 0, none⟩) (n' + 1) c3)) V.heap.size w3.heap.size 1 (some ⟨g3, 0, none⟩) (n' + 1) c3 (ints lt ++ [.int .i64 X]) := (row_slc HO3.out (by decide)).chg (l' := w.heap.size) (h' := W.heap.size) (by (repeat' (first | with_reducible assumption | with_reducible exact Chg.refl _ _ _ | (with_reducible refine Chg.setCell ?_ (by first | omega | (simp; done) | (simp; omega)) (by first | omega | (simp; done) | (simp; omega)) _) | with_reducible apply Chg.alloc))) (.inr zW)
  have sz : (w3.setCell ⟨w.heap.size, 3, none⟩ (.slice (some ⟨g3, 0, none⟩) (n' + 1) c3)).heap.size = w3.heap.size := by simp
  rw [← sz] at S30
  generalize w3.setCell ⟨w.heap.size, 3, none⟩ (.slice (some ⟨g3, 0, none⟩) (n' + 1) c3) = U at kl0 kr0 B0 S10 S30 sz ⊢
  have zV : V.heap.size ≤ U.heap.size := by omega
  simp only [List.setIfInBounds_toArray, List.set_cons_succ, List.set_cons_zero] at kl0
  have HBU := Lib.hid B0
  have HS1U := Lib.hid (S10.wide (lo' := W.heap.size) (Nat.le_refl _) zV)
  have HS3U := Lib.hid (S30.wide zW (Nat.le_refl _))
  have kl := kl0
  have kr := kr0
  have B : Below U.heap.size U U := Below.refl _ _
  have zl := blk_lt kl0
  have zr := blk_lt kr0
  clear B0 S10 S30 sz kl0 kr0
  clear el fl
  have el := blk_cell kl
  have er := blk_cell kr
  have fr := blk_frozen' kr
  have hX : X ≤ 100000000 := by omega
  have hll : (Lib.itoa (X : Int)).length ≤ 20 := by rw [Lib.itoa_nonneg]; exact dec_len hX
  go_region_with (first
    | (go_at_call 97; refine (l11Dec_any X hX _).mono ?_; rintro e W2 ⟨rfl, b2⟩; obtain ⟨kl, zl⟩ := blk_below b2 (by first | exact kl | (apply blk_drew; exact kl)); obtain ⟨kr, zr⟩ := blk_below b2 (by first | exact kr | (apply blk_drew; exact kr)); have el := blk_cell kl; have er := blk_cell kr; have fr := blk_frozen' kr; have B := below_step (by first | exact B | (apply below_drew; exact B)) b2))
  all_goals
    go_wp2
    have hF := HF.out
    refine bodyPost_ret (v := .tuple #[.agg #[.int .i64 r, .slice (some ⟨g1, 0, none⟩) xs.length c1, .bool t, .slice (some ⟨g3, 0, none⟩) (n' + 1) c3], .string ⟨(tTook X).toArray⟩]) ?_ rfl ⟨⟨r, some ⟨g1, 0, none⟩, xs.length, c1, t, some ⟨g3, 0, none⟩, n' + 1, c3⟩, ?_, ?_, ?_, fun _ => ⟨⟨_, _, rfl⟩, ⟨_, _, rfl⟩⟩⟩
    · simp [results, Tryd.results85, go_sem, er, tTook, bytes_app]
    · rw [hF]; rfl
    · rw [hF]
      have e3 := ints_snoc lt (X : Int)
      exact ln_both (H := W.heap.size) (a := w.heap.size) rfl rfl ((HS1U.out.below B).wide (Nat.le_refl _) B.size) (((e3 ▸ HS3U.out : Slc U W.heap.size U.heap.size 1 (some ⟨g3, 0, none⟩) (n' + 1) c3 (ints (lt ++ [(X : Int)]))).below B).wide (Nat.le_refl _) B.size) (fun b hb => hP b (by omega)) (by (repeat' (first | with_reducible assumption | with_reducible exact Chg.refl _ _ _ | (with_reducible refine Chg.setCell ?_ (by first | omega | (simp; done) | (simp; omega)) (by first | omega | (simp; done) | (simp; omega)) _) | with_reducible apply Chg.alloc)))
    · exact Below.chg (HBU.out.trans (B.mono (by omega))) (hi := W.heap.size) (by (repeat' (first | with_reducible assumption | with_reducible exact Chg.refl _ _ _ | (with_reducible refine Chg.setCell ?_ (by first | omega | (simp; done) | (simp; omega)) (by first | omega | (simp; done) | (simp; omega)) _) | with_reducible apply Chg.alloc))) (Nat.le_refl _)
/-- A line after a deed. -/
theorem l1Done_any {lines : Int} (v : LnV) (l : Ln) (d : DeedD) (w : World) (P : Nat → Prop) (h : LnOk w P v l) (hs : LnSmall l) (hd : deedP lines d) (hP : ∀ b, w.heap.size ≤ b → P b) (hf : d.a ≠ 0 → v.full) :
    Calls Tryd.prog 85 #[.agg #[.int .i64 v.room, .slice v.AH v.nH v.cH, .bool v.ended, .slice v.AT v.nT v.cT], .agg #[.string d.act, .int .i64 d.a, .int .i64 d.b]] w (DoneSays w P v l d) := by
  obtain ⟨ha, -⟩ := hd
  by_cases h0 : d.act.toList = lookA
  · exact done_look v l d w P h hs h0
  by_cases h1 : d.a = 0
  · exact done_never v l d w P h hs h0 h1
  by_cases h2 : d.act.toList = takeA ∧ ¬ l.held = []
  · exact done_take v l d w P h hs h1 h2.1 h2.2 hP (hf h1)
  have h2' : d.act.toList = takeA → l.held = [] := fun h => Classical.byContradiction fun hn => h2 ⟨h, hn⟩
  cases he : l.ended with
  | true => exact done_ended v l d w P h hs h0 h1 h2' he
  | false =>
    by_cases h3 : d.act.toList = takeA
    · exact done_empty v l d w P h hs h1 h3 (h2' h3) he
    by_cases h4 : d.act.toList = endA
    · exact done_end v l d w P h hs h1 h4 he
    have h5 : d.act.toList = putA := by
      rcases ha with h | h | h | h
      · exact h
      · exact absurd h h3
      · exact absurd h h4
      · exact absurd h h0
    by_cases h6 : l.room ≤ l.held.length
    · exact done_full v l d w P h hs h1 h5 he h6
    · exact done_put v l d w P h hs h1 h5 he h6 hP (hf h1)
end Go.Proofs.YtojnnemodikpeaaDoor
