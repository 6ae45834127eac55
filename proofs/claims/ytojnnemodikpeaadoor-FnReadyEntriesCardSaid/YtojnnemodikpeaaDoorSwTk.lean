/-
  The switchboard: end.
  The switchboard: take.
  The switchboard behind a number that was taken.
  The switchboard: take, something held.
-/
import Derived.Test.YtojnnemodikpeaaDoorSw
import Derived.Test.YtojnnemodikpeaaDoorRunA
import Derived.Deep.CutRange
import Derived.Test.YtojnnemodikpeaaDoorApp
import Derived.Test.YtojnnemodikpeaaDoorShelf
import Derived.Test.YtojnnemodikpeaaDoorDoneA
namespace Go.Proofs.YtojnnemodikpeaaDoor
open Go.RowKit Go.Conc
set_option linter.unusedVariables false
theorem lookC_put (c c' : Nat) (v : Value) : ∀ ps : List (Nat × Value), lookC c' (putC c v ps) = if c' = c then some v else lookC c' ps
  | [] => by unfold putC lookC; by_cases h : c' = c <;> simp [h, lookC]
  | p :: ps => by
    unfold putC
    by_cases h : c = p.1
    · rw [if_pos h]
      unfold lookC
      by_cases h2 : c' = c
      · rw [if_pos h2, if_pos (by rw [h2]; exact h)]
      · rw [if_neg h2, if_neg (by rw [← h]; exact h2), if_neg (by rw [← h]; exact h2)]
    · rw [if_neg h]
      have ih := lookC_put c c' v ps
      unfold lookC
      by_cases h2 : c' = p.1
      · rw [if_pos h2, if_pos h2, if_neg (by rintro rfl; exact h h2)]
      · rw [if_neg h2, if_neg h2]; exact ih
theorem blk_ne {w : World} {a b : Nat} {o1 o2 : Obj} (ha : w.heap[a]? = some o1) (hb : w.heap[b]? = some o2) (hne : o1 ≠ o2) : a ≠ b := by
  rintro rfl; rw [ha] at hb; injection hb with hb; exact hne hb
theorem ChanMap.at {w w' : World} {b : Nat} {ps : List (Nat × Value)} (h : ChanMap w b ps) (e : w'.heap[b]? = w.heap[b]?) : ChanMap w' b ps := by
  obtain ⟨es, cl, h1, h2⟩ := h; exact ⟨es, cl, e.trans h1, h2⟩
theorem heap_set_ne {w : World} {b c : Nat} {o : Obj} (h : b ≠ c) : ({ w with heap := w.heap.setIfInBounds b o } : World).heap[c]? = w.heap[c]? := by
  simp [Array.getElem?_setIfInBounds_ne h]
theorem below_set {w0 w : World} {B b : Nat} {o : Obj} (h : Below B w0 w) (hb : B ≤ b) : Below B w0 { w with heap := w.heap.setIfInBounds b o } :=
  h.trans ⟨rfl, rfl, rfl, by simp, fun k hk => heap_set_ne (by omega)⟩
/-- Whatever is cells, but for ints, stands. -/
def KeepC (w w' : World) : Prop := ∀ (b : Nat) (cs : Array Value) (T : TypeId) (fz : Nat × Nat), w.heap[b]? = some (Obj.cells cs T fz) → T ≠ 3 → w'.heap[b]? = some (Obj.cells cs T fz)
theorem KeepC.refl (w : World) : KeepC w w := fun _ _ _ _ h _ => h
theorem KeepC.trans {a b c : World} (h : KeepC a b) (h' : KeepC b c) : KeepC a c := fun n cs T fz x y => h' n cs T fz (h n cs T fz x y) y
theorem KeepC.below {w w' : World} (h : Below w.heap.size w w') : KeepC w w' := fun b cs T fz x _ => (h.block b (blk_lt x)).trans x
theorem KeepC.set {w : World} {b : Nat} {o o' : Obj} (hb : w.heap[b]? = some o) (ho : ∀ cs T fz, o = .cells cs T fz → T = 3) : KeepC w { w with heap := w.heap.setIfInBounds b o' } := fun c cs T fz x y => by
  have : b ≠ c := by rintro rfl; rw [hb] at x; injection x with x; exact y (ho _ _ _ x)
  rw [heap_set_ne this]; exact x
theorem KeepC.grown {w w' : World} {r : Option Nat} (h : w.grownBy w' r) (hr : ∀ b, r = some b → ∃ cs fz, w.heap[b]? = some (.cells cs 3 fz)) : KeepC w w' := fun b cs T fz x y => by
  refine (h.block b (blk_lt x) fun e => ?_).trans x
  obtain ⟨cs', fz', k⟩ := hr b e.symm
  rw [x] at k; injection k with k; injection k with _ k; exact y k
/-- The switchboard behind a change that leaves all but one channel's block and the map of the closed ones as it was: an end. -/
theorem SwOk.ended {w : World} {base : Nat} {S : Sw} {ls : List Ln} (h : SwOk w base S ls) {i c : Nat} {l : Ln} (hc : S.cs[i]? = some c) (hl : ls[i + 1]? = some l) {w' : World} {v : Value} {s r : Nat} {ps : List (Nat × Value)}
    (hk : ∀ b, b ≠ c → b ≠ S.mc → w'.heap[b]? = w.heap[b]?) (hch : w'.heap[c]? = some (.chan l.room.toNat (ints l.held).toArray true s r false)) (hps : ChanMap w S.mc ps)
    (hpl : ∀ (i c : Nat) (l : Ln), S.cs[i]? = some c → ls[i + 1]? = some l → (lookC c ps).isSome = l.ended) (hm : ChanMap w' S.mc (putC c v ps)) : SwOk w' base S (ls.set (i + 1) { l with ended := true }) := by
  obtain ⟨b1, b2, s0, r0, hc0⟩ := h.chans i c l hc hl
  obtain ⟨g1, arr, g2, _⟩ := row_blk h.lines
  obtain ⟨es, clk, hm0, _⟩ := hps
  obtain ⟨t1, tps, ⟨es2, clk2, hm2, he2⟩, t3, t4⟩ := h.taken
  refine ⟨?_, h.sb, ?_, by rw [List.length_set]; exact h.len, ?_, ?_, h.nodup, ⟨h.closed.1, _, hm, ?_⟩, ⟨t1, tps, ?_, ?_, t4⟩, h.ne⟩
  · rw [hk _ (blk_ne h.st hc0 (by simp)) (blk_ne h.st hm0 (by simp))]; exact h.st
  · exact row_at h.lines (hk _ (blk_ne g2 hc0 (by simp)) (blk_ne g2 hm0 (by simp)))
  · rw [List.getElem?_set_ne (by omega)]; exact h.head
  · intro j c' l' hj hl'
    by_cases e : j = i
    · subst e
      rw [hc] at hj; injection hj with hj; subst hj
      rw [List.getElem?_set_self (by have := (List.getElem?_eq_some_iff.1 hl).1; omega)] at hl'
      injection hl' with hl'; subst hl'
      exact ⟨b1, b2, s, r, hch⟩
    · rw [List.getElem?_set_ne (by omega)] at hl'
      obtain ⟨d1, d2, s1, r1, hd⟩ := h.chans j c' l' hj hl'
      have hne : c' ≠ c := by
        rintro rfl
        exact e ((List.getElem?_inj (List.getElem?_eq_some_iff.1 hj).1 h.nodup).1 (hj.trans hc.symm))
      exact ⟨d1, d2, s1, r1, by rw [hk _ hne (blk_ne hd hm0 (by simp))]; exact hd⟩
  · intro j c' l' hj hl'
    rw [lookC_put]
    by_cases e : j = i
    · subst e
      rw [hc] at hj; injection hj with hj; subst hj
      rw [List.getElem?_set_self (by have := (List.getElem?_eq_some_iff.1 hl).1; omega)] at hl'
      injection hl' with hl'; subst hl'
      rw [if_pos rfl]; rfl
    · rw [List.getElem?_set_ne (by omega)] at hl'
      have hne : c' ≠ c := by
        rintro rfl
        exact e ((List.getElem?_inj (List.getElem?_eq_some_iff.1 hj).1 h.nodup).1 (hj.trans hc.symm))
      rw [if_neg hne]
      exact hpl j c' l' hj hl'
  · exact ChanMap.at ⟨es2, clk2, hm2, he2⟩ (hk _ (blk_ne hm2 hc0 (by simp)) (fun e => h.ne e.symm))
  · intro j c' l' hj hl'
    have ht : ∀ {x : Ln}, TakenAt w base (lookC c' tps) x.taken → TakenAt w' base (lookC c' tps) x.taken := by
      intro x hx
      rcases hx with hx | ⟨g, n, cc, e1, e2⟩
      · exact .inl hx
      · obtain ⟨_, cur, k2, _⟩ := row_blk e2
        exact .inr ⟨g, n, cc, e1, row_at e2 (hk _ (blk_ne k2 hc0 (by simp)) (blk_ne k2 hm0 (by simp)))⟩
    by_cases e : j = i
    · subst e
      rw [hc] at hj; injection hj with hj; subst hj
      rw [List.getElem?_set_self (by have := (List.getElem?_eq_some_iff.1 hl).1; omega)] at hl'
      injection hl' with hl'; subst hl'
      exact ht (x := l) (t3 j c l hc hl)
    · rw [List.getElem?_set_ne (by omega)] at hl'
      exact ht (t3 j c' l' hj hl')
set_option maxHeartbeats 2000000 in
theorem end_any {w : World} {base : Nat} {S : Sw} {ls : List Ln} (h : SwOk w base S ls) {i c : Nat} {l : Ln} (hc : S.cs[i]? = some c) (hl : ls[i + 1]? = some l) (he : l.ended = false) (hcs : S.cs.length ≤ 6) :
    Calls Tryd.prog 90 #[.pointer (some ⟨S.sp, 0, none⟩), .int .i64 (i + 1 : Nat)] w fun e w' => e = .returned (.tuple #[]) ∧ SwOk w' base S (ls.set (i + 1) { l with ended := true }) ∧ Below base w w' ∧ KeepC w w' := by
  obtain ⟨b1, b2, s0, r0, hch⟩ := h.chans i c l hc hl
  rw [he] at hch
  obtain ⟨m1, ps, hm, hps⟩ := h.closed
  obtain ⟨es, clk, hm0, hm9⟩ := hm
  have hic := (List.getElem?_eq_some_iff.1 hc).1
  have hne := blk_ne h.st hch (by simp)
  have hmc := blk_ne hm0 hch (by simp)
  have ec := blk_cell h.st
  have eg := row_cells (j := i + 1) (v := .chan (some c)) h.lines (by simp [Sw.lines, hc])
  have hcl := fun ats ty => run_close_open (P := Tryd.prog) (w := w) ats ty hch
  have hsp : ({ w with heap := w.heap.setIfInBounds c (.chan l.room.toNat (ints l.held).toArray true s0 r0 false) } : World).heap[S.sp]? = _ := (heap_set_ne (fun e => hne e.symm)).trans h.st
  have ec1 := blk_cell hsp
  have hM1 : ChanMap { w with heap := w.heap.setIfInBounds c (.chan l.room.toNat (ints l.held).toArray true s0 r0 false) } S.mc ps := ⟨es, clk, (heap_set_ne (fun e => hmc e.symm)).trans hm0, hm9⟩
  have HM1 := Lib.hid hM1
  have HH := Lib.hid (And.intro h (And.intro hc (And.intro hl (And.intro hch (And.intro (show ChanMap w S.mc ps from ⟨es, clk, hm0, hm9⟩) (And.intro hps (And.intro hne hmc)))))))
  have i0 : (0 : Int) ≤ (i : Int) + 1 := by omega
  have i1 : (i : Int) + 1 < (S.cs.length : Int) + 1 := by omega
  have hz := blk_lt hch
  clear hM1 hsp hm0 hm9 hps h hc hl hch
  go_enter Tryd.func90, Tryd.ntmps90
  go_wp2_with (at_mapUpdate; refine wpList_update_chan _ rfl (.tmp 16) (.tmp 17) (.tmp 18) 77 rfl 3 Tryd.underlying77 und_chan S.mc c _ ps rfl rfl rfl HM1.out ?_; intro w2 o2 hw2 hcm2; have HW2 := Lib.hid hw2; have HC2 := Lib.hid hcm2; clear hw2 hcm2)
  obtain ⟨h, hc, hl, hch, hm, hps, hne, hmc⟩ := HH.out
  have hw2 := HW2.out
  refine ⟨rfl, .tuple #[], ?_, rfl, ?_, ?_, ?_⟩
  · simp [results, Tryd.results90, go_sem]
  · refine h.ended hc hl (v := _) (s := s0) (r := r0) (fun b h1 h2 => ?_) ?_ hm hps HC2.out
    · rw [hw2]
      simp only
      rw [Array.getElem?_setIfInBounds_ne (fun e => h2 e.symm), Array.getElem?_setIfInBounds_ne (fun e => h1 e.symm)]
    · rw [hw2]
      simp only
      rw [Array.getElem?_setIfInBounds_ne hmc, Array.getElem?_setIfInBounds_self_of_lt hz]
  · rw [hw2]
    exact below_set (w := { w with heap := w.heap.setIfInBounds c (.chan l.room.toNat (ints l.held).toArray true s0 r0 false) }) (below_set (Below.refl _ _) b1) m1
  · rw [hw2]
    obtain ⟨es, clk, hm0, _⟩ := hm
    refine (KeepC.set (w := w) hch (by simp)).trans (KeepC.set (w := { w with heap := w.heap.setIfInBounds c (.chan l.room.toNat (ints l.held).toArray true s0 r0 false) }) (b := S.mc) (o := .map es clk) ?_ (by simp))
    rw [heap_set_ne (fun e => hmc e.symm)]; exact hm0
end Go.Proofs.YtojnnemodikpeaaDoor
namespace Go.Proofs.YtojnnemodikpeaaDoor
open Go.RowKit Go.Conc
set_option linter.unusedVariables false
def takeF (l : Ln) : Ln × List UInt8 :=
  match l.held with
  | x :: xs => ({ l with held := xs, taken := l.taken ++ [x] }, tTook x)
  | [] => (l, if l.ended then tEnded else tEmpty)
set_option maxHeartbeats 2000000 in
theorem take_none {w : World} {base : Nat} {S : Sw} {ls : List Ln} (h : SwOk w base S ls) {i c : Nat} {l : Ln} (hc : S.cs[i]? = some c) (hl : ls[i + 1]? = some l) (hh : l.held = []) :
    Calls Tryd.prog 99 #[.pointer (some ⟨S.sp, 0, none⟩), .chan (some c)] w fun e w' => e = .returned (.string ⟨(takeF l).2.toArray⟩) ∧ w' = w := by
  obtain ⟨b1, b2, s0, r0, hch⟩ := h.chans i c l hc hl
  have hT : (takeF l).2 = if l.ended then tEnded else tEmpty := by unfold takeF; rw [hh]
  rw [hT]
  rw [hh] at hch
  simp only [ints, List.map_nil] at hch
  have HC := Lib.hid hch
  obtain ⟨t, ht⟩ : ∃ t, t = l.ended := ⟨_, rfl⟩
  rw [← ht] at HC hch ⊢
  clear hch hT h hc hl ht
  cases t with
  | true =>
    go_enter Tryd.func99, Tryd.ntmps99
    go_upto_region 2 with fail
    refine wp_select_recv_shut (c := c) (z := .int .i64 0) rfl rfl (by simp [go_sem, execOp, rcase, Act.eval]) HC.out ?_
    go_wp2
    go_ret
    exact ⟨rfl, rfl⟩
  | false =>
    go_enter Tryd.func99, Tryd.ntmps99
    go_upto_region 2 with fail
    refine wp_select_recv_empty (c := c) (z := .int .i64 0) rfl rfl (by simp [go_sem, execOp, rcase, Act.eval]) HC.out ?_
    go_wp2
    go_ret
    exact ⟨rfl, rfl⟩
end Go.Proofs.YtojnnemodikpeaaDoor
namespace Go.Proofs.YtojnnemodikpeaaDoor
open Go.RowKit Go.Conc
set_option linter.unusedVariables false
/-- One channel's block, the map of the taken ones, and the taken slice's own block have changed: nothing else. -/
theorem SwOk.took {w : World} {base : Nat} {S : Sw} {ls : List Ln} (h : SwOk w base S ls) {i c : Nat} {l : Ln} {x : Int} {xs : List Int} (hc : S.cs[i]? = some c) (hl : ls[i + 1]? = some l) (hh : l.held = x :: xs) {w' : World} {s r : Nat} {ps : List (Nat × Value)} {g cc : Nat}
    (hps : ChanMap w S.mt ps) (hold : ∀ (i c : Nat) (l : Ln), S.cs[i]? = some c → ls[i + 1]? = some l → TakenAt w base (lookC c ps) l.taken)
    (hinj : ∀ c c' b, c ∈ S.cs → c' ∈ S.cs → takenBlk (lookC c ps) = some b → takenBlk (lookC c' ps) = some b → c = c')
    (hk : ∀ b, b < w.heap.size → b ≠ c → b ≠ S.mt → some b ≠ takenBlk (lookC c ps) → w'.heap[b]? = w.heap[b]?) (hch : w'.heap[c]? = some (.chan l.room.toNat (ints xs).toArray l.ended s r false))
    (hg : some g = takenBlk (lookC c ps) ∨ w.heap.size ≤ g)
    (hown : w'.ownsRow base 3 1 (.slice (some ⟨g, 0, none⟩) (l.taken.length + 1) cc) (l.taken.length + 1) (ints (l.taken ++ [x])))
    (hm : ChanMap w' S.mt (putC c (.slice (some ⟨g, 0, none⟩) (l.taken.length + 1) cc) ps)) : SwOk w' base S (ls.set (i + 1) { l with held := xs, taken := l.taken ++ [x] }) := by
  obtain ⟨b1, b2, s0, r0, hc0⟩ := h.chans i c l hc hl
  obtain ⟨g1, arr, g2, _⟩ := row_blk h.lines
  obtain ⟨es, clk, hm0, hm9⟩ := hps
  obtain ⟨q1, cps, ⟨es2, clk2, hq2, hq3⟩, q4⟩ := h.closed
  have hil := (List.getElem?_eq_some_iff.1 hl).1
  have hcm : c ∈ S.cs := List.mem_of_getElem? hc
  -- the block of what was taken is one of integers
  have hint : ∀ {b : Nat} {o : Obj}, w.heap[b]? = some o → (∀ cs, o ≠ .cells cs 3) → some b ≠ takenBlk (lookC c ps) := by
    intro b o hb ho e
    rcases hold i c l hc hl with ⟨e1, _⟩ | ⟨g', n', c', e1, e2⟩
    · rw [e1] at e; cases e
    · rw [e1] at e
      injection e with e
      have e : b = g' := e
      subst e
      obtain ⟨_, cur, k2, _⟩ := row_blk e2
      rw [hb] at k2; injection k2 with k2
      exact ho cur k2
  have hnj : ∀ {j c' : Nat}, S.cs[j]? = some c' → j ≠ i → c' ≠ c := by
    intro j c' hj hne e
    subst e
    exact hne ((List.getElem?_inj (List.getElem?_eq_some_iff.1 hj).1 h.nodup).1 (hj.trans hc.symm))
  refine ⟨?_, h.sb, ?_, by rw [List.length_set]; exact h.len, ?_, ?_, h.nodup, ⟨q1, cps, ?_, ?_⟩, ⟨h.taken.1, _, hm, ?_, ?_⟩, h.ne⟩
  · rw [hk _ (blk_lt h.st) (blk_ne h.st hc0 (by simp)) (blk_ne h.st hm0 (by simp)) (hint h.st (by intro cs e; cases e))]; exact h.st
  · exact row_at h.lines (hk _ (blk_lt g2) (blk_ne g2 hc0 (by simp)) (blk_ne g2 hm0 (by simp)) (hint g2 (by intro cs e; cases e)))
  · rw [List.getElem?_set_ne (by omega)]; exact h.head
  · intro j c' l' hj hl'
    by_cases e : j = i
    · subst e
      rw [hc] at hj; injection hj with hj; subst hj
      rw [List.getElem?_set_self hil] at hl'
      injection hl' with hl'; subst hl'
      exact ⟨b1, b2, s, r, hch⟩
    · rw [List.getElem?_set_ne (by omega)] at hl'
      obtain ⟨d1, d2, s1, r1, hd⟩ := h.chans j c' l' hj hl'
      exact ⟨d1, d2, s1, r1, by rw [hk _ (blk_lt hd) (hnj hj e) (blk_ne hd hm0 (by simp)) (hint hd (by intro cs e; cases e))]; exact hd⟩
  · exact ChanMap.at ⟨es2, clk2, hq2, hq3⟩ (hk _ (blk_lt hq2) (blk_ne hq2 hc0 (by simp)) h.ne (hint hq2 (by intro cs e; cases e)))
  · intro j c' l' hj hl'
    by_cases e : j = i
    · subst e
      rw [hc] at hj; injection hj with hj; subst hj
      rw [List.getElem?_set_self hil] at hl'
      injection hl' with hl'; subst hl'
      exact q4 j c l hc hl
    · rw [List.getElem?_set_ne (by omega)] at hl'
      exact q4 j c' l' hj hl'
  · intro j c' l' hj hl'
    rw [lookC_put]
    by_cases e : j = i
    · subst e
      rw [hc] at hj; injection hj with hj; subst hj
      rw [List.getElem?_set_self hil] at hl'
      injection hl' with hl'; subst hl'
      rw [if_pos rfl]
      exact .inr ⟨g, _, cc, rfl, hown⟩
    · rw [List.getElem?_set_ne (by omega)] at hl'
      rw [if_neg (hnj hj e)]
      rcases hold j c' l' hj hl' with hx | ⟨g', n', c2, e1, e2⟩
      · exact .inl hx
      · obtain ⟨_, cur, k2, _⟩ := row_blk e2
        refine .inr ⟨g', n', c2, e1, row_at e2 (hk _ (blk_lt k2) (blk_ne k2 hc0 (by simp)) (blk_ne k2 hm0 (by simp)) ?_)⟩
        intro e'
        exact hnj hj e (hinj c' c g' (List.mem_of_getElem? hj) hcm (by rw [e1]; rfl) e'.symm)
  · intro c1 c2 b m1 m2 t1 t2
    rw [lookC_put] at t1 t2
    have hold' : ∀ {c' : Nat}, c' ∈ S.cs → takenBlk (lookC c' ps) = some b → b < w.heap.size := by
      intro c' hm' ht
      obtain ⟨j, hj⟩ := List.mem_iff_getElem?.1 hm'
      have hj2 := (List.getElem?_eq_some_iff.1 hj).1
      have hlen := h.len
      obtain ⟨l', hl'⟩ : ∃ l', ls[j + 1]? = some l' := ⟨_, List.getElem?_eq_getElem (by omega)⟩
      rcases hold j c' l' hj hl' with ⟨e1, _⟩ | ⟨g', n', c2, e1, e2⟩
      · rw [e1] at ht; cases ht
      · rw [e1] at ht
        injection ht with ht
        have ht : g' = b := ht
        subst ht
        obtain ⟨_, cur, k2, _⟩ := row_blk e2
        exact blk_lt k2
    have same : ∀ {c' : Nat}, c' ∈ S.cs → takenBlk (lookC c' ps) = some b → g = b → c' = c := by
      intro c' hm' ht eb
      subst eb
      rcases hg with e | e
      · exact hinj c' c g hm' hcm ht e.symm
      · have := hold' hm' ht; omega
    by_cases e1 : c1 = c
    · by_cases e2 : c2 = c
      · rw [e1, e2]
      · rw [if_pos e1] at t1; rw [if_neg e2] at t2
        injection t1 with t1
        exact absurd (same m2 t2 t1) e2
    · by_cases e2 : c2 = c
      · rw [if_neg e1] at t1; rw [if_pos e2] at t2
        injection t2 with t2
        exact absurd (same m1 t1 t2) e1
      · rw [if_neg e1] at t1; rw [if_neg e2] at t2
        exact hinj c1 c2 b m1 m2 t1 t2
end Go.Proofs.YtojnnemodikpeaaDoor
namespace Go.Proofs.YtojnnemodikpeaaDoor
open Go.RowKit Go.Conc Go.Sort
set_option linter.unusedVariables false
theorem below_alB {B : Nat} {w W : World} (h : Below B w W) (hB : B ≤ W.heap.size) (o : Obj) : Below B w (W.alloc o) := h.trans ((below_al (Below.refl W.heap.size W) o).mono hB)
theorem zero_ints (w : World) : (zeroValue 22).run Tryd.prog w = .ok (.slice none 0 0) w := by
  obtain ⟨i0, hi, hz0, _, _⟩ := info_parts (show (Tryd.prog.info? 22).map (fun i => (i.zero, i.size, i.bytes)) = some (some (.slice none 0 0), 1, 24) by kernel_rfl)
  simp [zeroValue, typeInfo, hi, hz0]
set_option maxRecDepth 20000 in
set_option maxHeartbeats 4000000 in
theorem take_some {w : World} {base : Nat} {S : Sw} {ls : List Ln} (h : SwOk w base S ls) {i c : Nat} {l : Ln} {x : Int} {xs : List Int} (hc : S.cs[i]? = some c) (hl : ls[i + 1]? = some l) (hh : l.held = x :: xs) (hx0 : 0 ≤ x) (hx1 : x ≤ 1000) (hsm : l.taken.length ≤ 1000) (htab : ∀ w', Below base w w' → Lib.TabIs Tryd.prog w' "internal/strconv.uint64pow10" .u64 Lib.pow10Tab) :
    Calls Tryd.prog 99 #[.pointer (some ⟨S.sp, 0, none⟩), .chan (some c)] w fun e w' => e = .returned (.string ⟨(takeF l).2.toArray⟩) ∧ SwOk w' base S (ls.set (i + 1) (takeF l).1) ∧ Below base w w' ∧ KeepC w w' := by
  obtain ⟨b1, b2, s0, r0, hch⟩ := h.chans i c l hc hl
  have hT : takeF l = ({ l with held := xs, taken := l.taken ++ [x] }, tTook x) := by unfold takeF; rw [hh]
  rw [hT]
  obtain ⟨m1, ps, hm, hold, hinj⟩ := h.taken
  rw [hh] at hch
  obtain ⟨w1, hw1⟩ : ∃ w1, w1 = w.setChan c l.room.toNat (((ints (x :: xs)).toArray).extract 1 ((ints (x :: xs)).toArray).size) l.ended s0 (r0 + 1) false := ⟨_, rfl⟩
  have HC := Lib.hid (And.intro hch hw1)
  obtain ⟨es, clk, hm0, hm9⟩ := hm
  have hne := blk_ne h.st hch (by simp)
  have hsp : w1.heap[S.sp]? = some (.cells #[.slice (some ⟨S.gl, 0, none⟩) (S.cs.length + 1) S.cl, .map (some S.mc), .map (some S.mt)] 80) := by
    rw [hw1]; simp only [World.setChan]; rw [Array.getElem?_setIfInBounds_ne (fun e => hne e.symm)]; exact h.st
  have hmc := blk_ne hm0 (HC.out.1) (by simp)
  have hm1 : w1.heap[S.mt]? = some (.map es clk) := by rw [hw1]; simp only [World.setChan]; rw [Array.getElem?_setIfInBounds_ne (fun e => hmc e.symm)]; exact hm0
  have zmt := blk_lt hm1
  obtain ⟨fU, hU, hU2⟩ := run_update_all (P := Tryd.prog) Tryd.underlying78 und_chan (c := c) (b := S.mt) (clock := clk) hm9
  have HU2 := Lib.hid hU2
  obtain ⟨V, hV⟩ : ∃ V, V = (lookC c ps).getD (.slice none 0 0) := ⟨_, rfl⟩
  have hlk : ∀ W : World, W.heap[S.mt]? = some (.map es clk) → (Instr.lookup 78 (.map (some S.mt)) (.chan (some c)) false).run Tryd.prog W = .ok V W := fun W hW => by
    have := run_lookup_chan (P := Tryd.prog) Tryd.underlying78 und_chan (zero_ints W) (c := c) (ps := ps) ⟨es, clk, hW, hm9⟩ false
    rw [hV]; simpa using this
  have hVo : w1.ownsRow base 3 1 V l.taken.length (ints l.taken) := by
    rcases hold i c l hc hl with ⟨e1, e2⟩ | ⟨g, n, cc, e1, e2⟩
    · rw [hV, e1, e2]; exact ⟨rfl, .inl ⟨rfl, rfl⟩⟩
    · obtain ⟨_, cur, k2, _⟩ := row_blk e2
      have hn : n = l.taken.length := by have := e2.1; simp [ints] at this; omega
      rw [hV, e1]; subst hn
      refine row_at e2 ?_
      rw [hw1]; simp only [World.setChan]; rw [Array.getElem?_setIfInBounds_ne (fun e => (blk_ne k2 HC.out.1 (by simp)) e.symm)]
  have HVO := Lib.hid hVo
  have hlkA := hlk w1.drew hm1
  have hlkB := hlk ((w1.alloc (.cells #[.int .i64 x] 3)).drew) (blk_drew (blk_alloc hm1 _))
  have hVm : ¬ some S.mt = V.ownBlock := by
    obtain ⟨_, hq | ⟨g, cap, cur, e1, e2, e3, _⟩⟩ := hVo
    · rw [hq.1]; simp [Value.ownBlock]
    · rw [e1]; simp only [Value.ownBlock]
      intro e; injection e with e
      have e : S.mt = g := e
      rw [e] at hm1; rw [hm1] at e3; cases e3
  have hVs : ¬ some S.sp = V.ownBlock := by
    obtain ⟨_, hq | ⟨g, cap, cur, e1, e2, e3, _⟩⟩ := HVO.out
    · rw [hq.1]; simp [Value.ownBlock]
    · rw [e1]; simp only [Value.ownBlock]
      intro e; injection e with e
      have e : S.sp = g := e
      rw [e] at hsp; rw [hsp] at e3; cases e3
  have HSP := Lib.hid (And.intro hsp hVs)
  clear hVs
  have HM1 := Lib.hid (And.intro hm1 (And.intro hVm hU))
  clear hlk hVm hU hm1
  have hwb : base ≤ w1.heap.size := by have := (row_blk h.lines).1; have := blk_lt h.st; have := h.sb; rw [hw1]; simp [World.setChan]; omega
  obtain ⟨i0, hi0, hz0, hz1, hz2⟩ := info_parts info_int
  have HI := Lib.hid hi0
  clear hi0 hVo hU2
  have ec := blk_cell hsp
  have zsp := blk_lt hsp
  clear hw1 hch
  go_enter Tryd.func99, Tryd.ntmps99
  go_upto_region 2 with fail
  refine wp_select_recv_buf (c := c) (z := .int .i64 0) rfl rfl (by simp [go_sem, execOp, rcase, Act.eval]) HC.out.1 (by simp [ints]) ?_
  rw [← HC.out.2]
  have hg0 : ((ints (x :: xs)).toArray).getD 0 undef = .int .i64 x := by simp [ints]
  rw [hg0]
  go_upto_region 7 with fail
  have HH := Lib.hid (And.intro h (And.intro hc (And.intro hl (And.intro hold (And.intro hinj hV)))))
  have HHH := Lib.hid hh
  clear h hc hl hold hinj hV hh hT
  go_cut [] from 15 to 28 (fun wc => ∃ g2 c2n w3, wc = { w3 with heap := w3.heap.setIfInBounds S.mt (fU (.slice (some ⟨g2, 0, none⟩) (l.taken.length + 1) c2n)) } ∧ w3.ownsRow base 3 1 (.slice (some ⟨g2, 0, none⟩) (l.taken.length + 1) c2n) (l.taken.length + 1) (ints l.taken ++ [.int .i64 x]) ∧ ((w1.alloc (.cells #[.int .i64 x] 3)).drew).grownBy w3 V.ownBlock ∧ (V.ownBlock = some g2 ∨ g2 = w1.heap.size + 1))
  case first =>
    go_region_law (first
        | (refine step_append_lies _ rfl (.tmp 25) (.tmp 27) 22 rfl base 3 i0 (.int .i64 0) 1 8 Tryd.underlying22 HI.out hz0 hz1 hz2 rfl (by decide) V l.taken.length (ints l.taken) rfl ?c1 ⟨_, 0, none⟩ 1 1 [.int .i64 x] rfl rfl ?c2 (by simp [Value.oneCell']) (by decide) ?c5 ?c6 ?c7 _ rfl ?_; (case c1 => exact row_below' HVO.out (by (repeat' (first | with_reducible assumption | with_reducible exact Below.refl _ _ | with_reducible apply below_al | with_reducible apply below_drew)))); (case c2 => exact World.news_of_block (cs := #[.int .i64 x]) (by ((try with_reducible apply blk_drew); (first | with_reducible assumption | (with_reducible refine heap_new' _ _ ?_; simp) | (with_reducible refine blk_alloc ?_ _; first | with_reducible assumption | (with_reducible refine heap_new' _ _ ?_; simp)) | (with_reducible refine blk_alloc ?_ _; with_reducible refine blk_alloc ?_ _; first | with_reducible assumption | (with_reducible refine heap_new' _ _ ?_; simp)) | (with_reducible refine blk_alloc ?_ _; with_reducible refine blk_alloc ?_ _; with_reducible refine blk_alloc ?_ _; first | with_reducible assumption | (with_reducible refine heap_new' _ _ ?_; simp)))))); (case c5 => unfold maxLen; omega); (case c6 => omega); (case c7 => first | omega | (simp; omega)); intro g2 c2n w3 hown2 hgr2 hat2 hlt2; have HO2 := Lib.hid hown2; have HG2 := Lib.hid hgr2; have HAT := Lib.hid hat2; have hm3 : w3.heap[S.mt]? = some (.map es clk) := (hgr2.block S.mt (by first | (simp; done) | (simp; omega)) HM1.out.2.1).trans (blk_drew (blk_alloc HM1.out.1 _)); have hup := fun v => HM1.out.2.2 w3 v hm3; have hsp3 := (hgr2.block S.sp (by first | (simp; done) | (simp; omega)) HSP.out.2).trans (blk_drew (blk_alloc HSP.out.1 _)); have ec3 := blk_cell hsp3; have HM3 := Lib.hid hm3; clear hown2 hgr2 hat2 hm3))
    all_goals
      go_wp2_with fail
      go_meet
      exact ⟨g2, c2n, w3, rfl, HO2.out, HG2.out, HAT.out.imp id (fun h => h.trans (by simp))⟩
  case rest =>
    obtain ⟨g2, c2n, w3, rfl, ho2, hg2, hat⟩ := hcut
    have hb1 : Below base w w1 := by rw [HC.out.2]; exact below_setChan (Below.refl _ _) b1 _ _ _ _ _ _
    have hb3 : Below base w1 w3 := (below_drew (below_alB (Below.refl base w1) hwb _)).trans (row_below HVO.out hg2 (by simp; omega))
    have hb4 : Below base w { w3 with heap := w3.heap.setIfInBounds S.mt (fU (.slice (some ⟨g2, 0, none⟩) (l.taken.length + 1) c2n)) } := below_set (hb1.trans hb3) m1
    have HB4 := Lib.hid hb4
    have HG := Lib.hid (And.intro ho2 (And.intro hg2 hat))
    have hz4 : base ≤ ({ w3 with heap := w3.heap.setIfInBounds S.mt (fU (.slice (some ⟨g2, 0, none⟩) (l.taken.length + 1) c2n)) } : World).heap.size := by have := hb3.size; simp; omega
    have hll : (Lib.itoa x).length ≤ 20 := by
      obtain ⟨X, rfl⟩ := Int.eq_ofNat_of_zero_le hx0
      rw [Lib.itoa_nonneg]; exact dec_len (by omega)
    clear ho2 hg2 hat hb1 hb3 hb4
    generalize hwc : ({ w3 with heap := w3.heap.setIfInBounds S.mt (fU (.slice (some ⟨g2, 0, none⟩) (l.taken.length + 1) c2n)) } : World) = W4 at *
    have HWC := Lib.hid hwc
    clear hwc
    go_wp2_with (go_at_call 98; refine (Tryd.strconv_Itoa x (by omega) (by omega) _ (htab _ HB4.out)).mono ?_; rintro e w5 ⟨rfl, kk, os, rfl⟩)
    obtain ⟨h, hc, hl, hold, hinj, hV⟩ := HH.out
    obtain ⟨ho2, hg2, hat⟩ := HG.out
    have hW4 := HWC.out
    have zw1 : w1.heap.size = w.heap.size := by rw [HC.out.2]; simp [World.setChan]
    have zw3 : w1.heap.size + 1 ≤ w3.heap.size := by have := hg2.size; simpa using this
    have zW4 : W4.heap.size = w3.heap.size := by rw [← hW4]; simp
    have B5 : Below W4.heap.size W4 (grow (W4.drewN kk) os) := ⟨rfl, rfl, rfl, by simp [grow], fun i hi => by
      show ((W4.drewN kk).heap ++ os)[i]? = _
      rw [Array.getElem?_append_left (by show i < W4.heap.size; omega)]
      rfl⟩
    have hVB : takenBlk (lookC c ps) = V.ownBlock := by
      rcases hold i c l hc hl with ⟨e1, _⟩ | ⟨g, n, cc, e1, _⟩
      · rw [hV, e1]; rfl
      · rw [hV, e1]; rfl
    have hV4 : ∀ b, b < w.heap.size → b ≠ S.mt → ¬ some b = V.ownBlock → (grow (W4.drewN kk) os).heap[b]? = w1.heap[b]? := fun b z e2 e3 => by
      rw [B5.block b (by omega), ← hW4]
      simp only
      rw [Array.getElem?_setIfInBounds_ne (fun e => e2 e.symm), hg2.block b (by simp; omega) e3]
      exact (Below.heap_alloc _ _ _ (by omega))
    have hcV : ¬ some c = V.ownBlock := by
      rw [← hVB]
      rcases hold i c l hc hl with ⟨e1, _⟩ | ⟨g, n, cc, e1, e2⟩
      · rw [e1]; simp [takenBlk]
      · rw [e1]
        obtain ⟨_, cur, k2, _⟩ := row_blk e2
        intro e; injection e with e
        have e : c = g := e
        exact blk_ne k2 HC.out.1 (by simp) e.symm
    have zc := blk_lt HC.out.1
    obtain ⟨es', clk', u1, u2⟩ := HU2.out (.slice (some ⟨g2, 0, none⟩) (l.taken.length + 1) c2n)
    have hm3 : w3.heap[S.mt]? = some (.map es clk) := (hg2.block S.mt (by simp; omega) HM1.out.2.1).trans (blk_drew (blk_alloc HM1.out.1 _))
    have km : (grow (W4.drewN kk) os).heap[S.mt]? = some (.map es' clk') := by
      rw [B5.block S.mt (by omega), ← hW4]
      simp only
      rw [Array.getElem?_setIfInBounds_self_of_lt (by omega), u1]
    refine bodyPost_ret (v := .string ⟨(tTook x).toArray⟩) ?_ rfl ⟨rfl, ?_, HB4.out.trans (B5.mono hz4), ?_⟩
    · simp [results, Tryd.results99, go_sem, tTook, bytes_app]
    · refine h.took (x := x) (xs := xs) (s := s0) (r := r0 + 1) (ps := ps) (g := g2) (cc := c2n) hc hl HHH.out ⟨es, clk, hm0, hm9⟩ hold hinj (fun b z e1 e2 e3 => ?_) ?_ ?_ ?_ ⟨es', clk', km, u2⟩
      · rw [hV4 b z e2 (by rw [← hVB]; exact e3), HC.out.2]
        simp only [World.setChan]
        rw [Array.getElem?_setIfInBounds_ne (fun e => e1 e.symm)]
      · rw [hV4 c zc (fun e => hmc e.symm) hcV, HC.out.2, heap_setChan _ _ _ _ _ _ _ _ zc]
        rw [show ((ints (x :: xs)).toArray).extract 1 ((ints (x :: xs)).toArray).size = (ints xs).toArray by apply Array.ext'; simp [ints]; exact List.take_of_length_le (by simp)]
      · rw [hVB]
        rcases hat with e | e
        · exact .inl e.symm
        · right; omega
      · rw [← ints_snoc]
        obtain ⟨_, cur, k2, _⟩ := row_blk ho2
        refine row_at ho2 ((B5.block g2 (by have := blk_lt k2; omega)).trans ?_)
        rw [← hW4]
        simp only
        rw [Array.getElem?_setIfInBounds_ne (blk_ne hm3 k2 (by simp))]
    · refine KeepC.trans ?_ (KeepC.below B5)
      have q1 : KeepC w w1 := by rw [HC.out.2]; exact KeepC.set HC.out.1 (by simp)
      have q2 : KeepC w1 w3 := (KeepC.below (below_drew (below_al (Below.refl _ _) _))).trans (KeepC.grown hg2 fun b e => by
        rw [← hVB] at e
        rcases hold i c l hc hl with ⟨e1, _⟩ | ⟨g, n, cc, e1, e2⟩
        · rw [e1] at e; simp [takenBlk] at e
        · rw [e1] at e
          injection e with e
          have e : g = b := e
          subst e
          obtain ⟨_, cur, k2, _⟩ := row_blk e2
          refine ⟨cur, (0, 0), blk_drew (blk_alloc ?_ _)⟩
          rw [HC.out.2]; simp only [World.setChan]; rw [Array.getElem?_setIfInBounds_ne (fun e => (blk_ne k2 HC.out.1 (by simp)) e.symm)]; exact k2)
      have q3 : KeepC w3 W4 := by rw [← hW4]; exact KeepC.set hm3 (by simp)
      exact (q1.trans q2).trans q3
end Go.Proofs.YtojnnemodikpeaaDoor
