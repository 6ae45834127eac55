/-
  The switchboard: end.
-/
import Derived.Test.YtojnnemodikpeaaDoorSw
import Derived.Test.YtojnnemodikpeaaDoorRunS
namespace Go.Proofs.YtojnnemodikpeaaDoor
open Go.RowKit Go.Conc
set_option linter.unusedVariables false
theorem lookC_put (c c' : Nat) (v : Value) : ∀ ps : List (Nat × Value), lookC c' (putC c v ps) = if c' = c then some v else lookC c' ps
  | [] => by unfold putC lookC; by_cases h : c' = c <;> simp [h, lookC]
  | p :: ps => by
    unfold putC
    by_cases h : c = p.1
    · rw [if_pos h]
      unfold lookC
      by_cases h2 : c' = c
      · rw [if_pos h2, if_pos (by rw [h2]; exact h)]
      · rw [if_neg h2, if_neg (by rw [← h]; exact h2), if_neg (by rw [← h]; exact h2)]
    · rw [if_neg h]
      have ih := lookC_put c c' v ps
      unfold lookC
      by_cases h2 : c' = p.1
      · rw [if_pos h2, if_pos h2, if_neg (by rintro rfl; exact h h2)]
      · rw [if_neg h2, if_neg h2]; exact ih
theorem blk_ne {w : World} {a b : Nat} {o1 o2 : Obj} (ha : w.heap[a]? = some o1) (hb : w.heap[b]? = some o2) (hne : o1 ≠ o2) : a ≠ b := by
  rintro rfl; rw [ha] at hb; injection hb with hb; exact hne hb
theorem ChanMap.at {w w' : World} {b : Nat} {ps : List (Nat × Value)} (h : ChanMap w b ps) (e : w'.heap[b]? = w.heap[b]?) : ChanMap w' b ps := by
  obtain ⟨es, cl, h1, h2⟩ := h; exact ⟨es, cl, e.trans h1, h2⟩
theorem heap_set_ne {w : World} {b c : Nat} {o : Obj} (h : b ≠ c) : ({ w with heap := w.heap.setIfInBounds b o } : World).heap[c]? = w.heap[c]? := by
  simp [Array.getElem?_setIfInBounds_ne h]
theorem below_set {w0 w : World} {B b : Nat} {o : Obj} (h : Below B w0 w) (hb : B ≤ b) : Below B w0 { w with heap := w.heap.setIfInBounds b o } :=
  h.trans ⟨rfl, rfl, rfl, by simp, fun k hk => heap_set_ne (by omega)⟩
/-- Whatever is cells, but for ints, stands. -/
def KeepC (w w' : World) : Prop := ∀ (b : Nat) (cs : Array Value) (T : TypeId) (fz : Nat × Nat), w.heap[b]? = some (Obj.cells cs T fz) → T ≠ 3 → w'.heap[b]? = some (Obj.cells cs T fz)
theorem KeepC.refl (w : World) : KeepC w w := fun _ _ _ _ h _ => h
theorem KeepC.trans {a b c : World} (h : KeepC a b) (h' : KeepC b c) : KeepC a c := fun n cs T fz x y => h' n cs T fz (h n cs T fz x y) y
theorem KeepC.below {w w' : World} (h : Below w.heap.size w w') : KeepC w w' := fun b cs T fz x _ => (h.block b (blk_lt x)).trans x
theorem KeepC.set {w : World} {b : Nat} {o o' : Obj} (hb : w.heap[b]? = some o) (ho : ∀ cs T fz, o = .cells cs T fz → T = 3) : KeepC w { w with heap := w.heap.setIfInBounds b o' } := fun c cs T fz x y => by
  have : b ≠ c := by rintro rfl; rw [hb] at x; injection x with x; exact y (ho _ _ _ x)
  rw [heap_set_ne this]; exact x
theorem KeepC.grown {w w' : World} {r : Option Nat} (h : w.grownBy w' r) (hr : ∀ b, r = some b → ∃ cs fz, w.heap[b]? = some (.cells cs 3 fz)) : KeepC w w' := fun b cs T fz x y => by
  refine (h.block b (blk_lt x) fun e => ?_).trans x
  obtain ⟨cs', fz', k⟩ := hr b e.symm
  rw [x] at k; injection k with k; injection k with _ k; exact y k
/-- The switchboard behind a change that leaves all but one channel's block and the map of the closed ones as it was: an end. -/
theorem SwOk.ended {w : World} {base : Nat} {S : Sw} {ls : List Ln} (h : SwOk w base S ls) {i c : Nat} {l : Ln} (hc : S.cs[i]? = some c) (hl : ls[i + 1]? = some l) {w' : World} {v : Value} {s r : Nat} {ps : List (Nat × Value)}
    (hk : ∀ b, b ≠ c → b ≠ S.mc → w'.heap[b]? = w.heap[b]?) (hch : w'.heap[c]? = some (.chan l.room.toNat (ints l.held).toArray true s r false)) (hps : ChanMap w S.mc ps)
    (hpl : ∀ (i c : Nat) (l : Ln), S.cs[i]? = some c → ls[i + 1]? = some l → (lookC c ps).isSome = l.ended) (hm : ChanMap w' S.mc (putC c v ps)) : SwOk w' base S (ls.set (i + 1) { l with ended := true }) := by
  obtain ⟨b1, b2, s0, r0, hc0⟩ := h.chans i c l hc hl
  obtain ⟨g1, arr, g2, _⟩ := row_blk h.lines
  obtain ⟨es, clk, hm0, _⟩ := hps
  obtain ⟨t1, tps, ⟨es2, clk2, hm2, he2⟩, t3, t4⟩ := h.taken
  refine ⟨?_, h.sb, ?_, by rw [List.length_set]; exact h.len, ?_, ?_, h.nodup, ⟨h.closed.1, _, hm, ?_⟩, ⟨t1, tps, ?_, ?_, t4⟩, h.ne⟩
  · rw [hk _ (blk_ne h.st hc0 (by simp)) (blk_ne h.st hm0 (by simp))]; exact h.st
  · exact row_at h.lines (hk _ (blk_ne g2 hc0 (by simp)) (blk_ne g2 hm0 (by simp)))
  · rw [List.getElem?_set_ne (by omega)]; exact h.head
  · intro j c' l' hj hl'
    by_cases e : j = i
    · subst e
      rw [hc] at hj; injection hj with hj; subst hj
      rw [List.getElem?_set_self (by have := (List.getElem?_eq_some_iff.1 hl).1; omega)] at hl'
      injection hl' with hl'; subst hl'
      exact ⟨b1, b2, s, r, hch⟩
    · rw [List.getElem?_set_ne (by omega)] at hl'
      obtain ⟨d1, d2, s1, r1, hd⟩ := h.chans j c' l' hj hl'
      have hne : c' ≠ c := by
        rintro rfl
        exact e ((List.getElem?_inj (List.getElem?_eq_some_iff.1 hj).1 h.nodup).1 (hj.trans hc.symm))
      exact ⟨d1, d2, s1, r1, by rw [hk _ hne (blk_ne hd hm0 (by simp))]; exact hd⟩
  · intro j c' l' hj hl'
    rw [lookC_put]
    by_cases e : j = i
    · subst e
      rw [hc] at hj; injection hj with hj; subst hj
      rw [List.getElem?_set_self (by have := (List.getElem?_eq_some_iff.1 hl).1; omega)] at hl'
      injection hl' with hl'; subst hl'
      rw [if_pos rfl]; rfl
    · rw [List.getElem?_set_ne (by omega)] at hl'
      have hne : c' ≠ c := by
        rintro rfl
        exact e ((List.getElem?_inj (List.getElem?_eq_some_iff.1 hj).1 h.nodup).1 (hj.trans hc.symm))
      rw [if_neg hne]
      exact hpl j c' l' hj hl'
  · exact ChanMap.at ⟨es2, clk2, hm2, he2⟩ (hk _ (blk_ne hm2 hc0 (by simp)) (fun e => h.ne e.symm))
  · intro j c' l' hj hl'
    have ht : ∀ {x : Ln}, TakenAt w base (lookC c' tps) x.taken → TakenAt w' base (lookC c' tps) x.taken := by
      intro x hx
      rcases hx with hx | ⟨g, n, cc, e1, e2⟩
      · exact .inl hx
      · obtain ⟨_, cur, k2, _⟩ := row_blk e2
        exact .inr ⟨g, n, cc, e1, row_at e2 (hk _ (blk_ne k2 hc0 (by simp)) (blk_ne k2 hm0 (by simp)))⟩
    by_cases e : j = i
    · subst e
      rw [hc] at hj; injection hj with hj; subst hj
      rw [List.getElem?_set_self (by have := (List.getElem?_eq_some_iff.1 hl).1; omega)] at hl'
      injection hl' with hl'; subst hl'
      exact ht (x := l) (t3 j c l hc hl)
    · rw [List.getElem?_set_ne (by omega)] at hl'
      exact ht (t3 j c' l' hj hl')
set_option maxHeartbeats 2000000 in
theorem end_any {w : World} {base : Nat} {S : Sw} {ls : List Ln} (h : SwOk w base S ls) {i c : Nat} {l : Ln} (hc : S.cs[i]? = some c) (hl : ls[i + 1]? = some l) (he : l.ended = false) (hcs : S.cs.length ≤ 6) :
    Calls Tryd.prog 90 #[.pointer (some ⟨S.sp, 0, none⟩), .int .i64 (i + 1 : Nat)] w fun e w' => e = .returned (.tuple #[]) ∧ SwOk w' base S (ls.set (i + 1) { l with ended := true }) ∧ Below base w w' ∧ KeepC w w' := by
  obtain ⟨b1, b2, s0, r0, hch⟩ := h.chans i c l hc hl
  rw [he] at hch
  obtain ⟨m1, ps, hm, hps⟩ := h.closed
  obtain ⟨es, clk, hm0, hm9⟩ := hm
  have hic := (List.getElem?_eq_some_iff.1 hc).1
  have hne := blk_ne h.st hch (by simp)
  have hmc := blk_ne hm0 hch (by simp)
  have ec := blk_cell h.st
  have eg := row_cells (j := i + 1) (v := .chan (some c)) h.lines (by simp [Sw.lines, hc])
  have hcl := fun ats ty => run_close_open (P := Tryd.prog) (w := w) ats ty hch
  have hsp : ({ w with heap := w.heap.setIfInBounds c (.chan l.room.toNat (ints l.held).toArray true s0 r0 false) } : World).heap[S.sp]? = _ := (heap_set_ne (fun e => hne e.symm)).trans h.st
  have ec1 := blk_cell hsp
  have hM1 : ChanMap { w with heap := w.heap.setIfInBounds c (.chan l.room.toNat (ints l.held).toArray true s0 r0 false) } S.mc ps := ⟨es, clk, (heap_set_ne (fun e => hmc e.symm)).trans hm0, hm9⟩
  have HM1 := Lib.hid hM1
  have HH := Lib.hid (And.intro h (And.intro hc (And.intro hl (And.intro hch (And.intro (show ChanMap w S.mc ps from ⟨es, clk, hm0, hm9⟩) (And.intro hps (And.intro hne hmc)))))))
  have i0 : (0 : Int) ≤ (i : Int) + 1 := by omega
  have i1 : (i : Int) + 1 < (S.cs.length : Int) + 1 := by omega
  have hz := blk_lt hch
  clear hM1 hsp hm0 hm9 hps h hc hl hch
  go_enter Tryd.func90, Tryd.ntmps90
  go_wp2_with (at_mapUpdate; refine wpList_update_chan _ rfl (.tmp 16) (.tmp 17) (.tmp 18) 77 rfl 3 Tryd.underlying77 und_chan S.mc c _ ps rfl rfl rfl HM1.out ?_; intro w2 o2 hw2 hcm2; have HW2 := Lib.hid hw2; have HC2 := Lib.hid hcm2; clear hw2 hcm2)
  obtain ⟨h, hc, hl, hch, hm, hps, hne, hmc⟩ := HH.out
  have hw2 := HW2.out
  refine ⟨rfl, .tuple #[], ?_, rfl, ?_, ?_, ?_⟩
  · simp [results, Tryd.results90, go_sem]
  · refine h.ended hc hl (v := _) (s := s0) (r := r0) (fun b h1 h2 => ?_) ?_ hm hps HC2.out
    · rw [hw2]
      simp only
      rw [Array.getElem?_setIfInBounds_ne (fun e => h2 e.symm), Array.getElem?_setIfInBounds_ne (fun e => h1 e.symm)]
    · rw [hw2]
      simp only
      rw [Array.getElem?_setIfInBounds_ne hmc, Array.getElem?_setIfInBounds_self_of_lt hz]
  · rw [hw2]
    exact below_set (w := { w with heap := w.heap.setIfInBounds c (.chan l.room.toNat (ints l.held).toArray true s0 r0 false) }) (below_set (Below.refl _ _) b1) m1
  · rw [hw2]
    obtain ⟨es, clk, hm0, _⟩ := hm
    refine (KeepC.set (w := w) hch (by simp)).trans (KeepC.set (w := { w with heap := w.heap.setIfInBounds c (.chan l.room.toNat (ints l.held).toArray true s0 r0 false) }) (b := S.mc) (o := .map es clk) ?_ (by simp))
    rw [heap_set_ne (fun e => hmc e.symm)]; exact hm0
end Go.Proofs.YtojnnemodikpeaaDoor
