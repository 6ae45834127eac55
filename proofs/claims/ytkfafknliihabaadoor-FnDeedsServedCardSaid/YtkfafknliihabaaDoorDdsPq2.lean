/-
 Part 2 of what stands behind the last text.
-/
import Derived.Deep.CutRange
import Derived.Test.YtkfafknliihabaaDoorShelf
import Derived.Conc.SmallLaws
import Derived.Lib.AppendIntMem
import Derived.Test.YtkfafknliihabaaDoorDdsPq1
set_option linter.unusedSectionVars false
set_option linter.unusedSimpArgs false
set_option linter.unusedVariables false
namespace Go.Proofs.YtkfafknliihabaaDoor
open Go.RowKit Go.Conc
theorem lookC_put (c c' : Nat) (v : Value) : ∀ ps : List (Nat × Value),lookC c' (putC c v ps) = if c' = c then some v else lookC c' ps
 | [] => by unfold putC lookC; by_cases h : c' = c <;> simp [h,lookC]
 | p :: ps => by
  unfold putC
  by_cases h : c = p.1
  ·rw [if_pos h]
   unfold lookC
   by_cases h2 : c' = c
   ·rw [if_pos h2,if_pos (by rw [h2]; exact h)]
   ·rw [if_neg h2,if_neg (by rw [<- h]; exact h2),if_neg (by rw [<- h]; exact h2)]
  ·rw [if_neg h]
   have ih:=lookC_put c c' v ps
   unfold lookC
   by_cases h2 : c' = p.1
   ·rw [if_pos h2,if_pos h2,if_neg (by rintro rfl; exact h h2)]
   ·rw [if_neg h2,if_neg h2]; exact ih
theorem blk_ne {w : World} {a b : Nat} {o1 o2 : Obj} (ha : w.heap[a]? = some o1) (hb : w.heap[b]? = some o2) (hne : o1 ≠ o2) : a ≠ b:=by
 rintro rfl; rw [ha] at hb; injection hb with hb; exact hne hb
theorem ChanMap.at {w w' : World} {b : Nat} {ps : List (Nat × Value)} (h : ChanMap w b ps) (e : w'.heap[b]? = w.heap[b]?) : ChanMap w' b ps:=by
 obtain ⟨es,cl,h1,h2⟩:=h; exact ⟨es,cl,e.trans h1,h2⟩
theorem heap_set_ne {w : World} {b c : Nat} {o : Obj} (h : b ≠ c) : ({ w with heap:=w.heap.setIfInBounds b o } : World).heap[c]? = w.heap[c]?:=by
 simp [Array.getElem?_setIfInBounds_ne h]
theorem below_set {w0 w : World} {B b : Nat} {o : Obj} (h : Below B w0 w) (hb : B <= b) : Below B w0 { w with heap:=w.heap.setIfInBounds b o }:=
 h.trans ⟨rfl,rfl,rfl,by simp,λ k hk => heap_set_ne (by omega)⟩
def KeepC (w w' : World) : Prop:=∀ (b : Nat) (cs : Array Value) (T : TypeId) (fz : Nat × Nat),w.heap[b]? = some (Obj.cells cs T fz) -> T ≠ 3 -> w'.heap[b]? = some (Obj.cells cs T fz)
theorem KeepC.refl (w : World) : KeepC w w:=λ _ _ _ _ h _ => h
theorem KeepC.trans {a b c : World} (h : KeepC a b) (h' : KeepC b c) : KeepC a c:=λ n cs T fz x y => h' n cs T fz (h n cs T fz x y) y
theorem KeepC.below {w w' : World} (h : Below w.heap.size w w') : KeepC w w':=λ b cs T fz x _ => (h.block b (blk_lt x)).trans x
theorem KeepC.set {w : World} {b : Nat} {o o' : Obj} (hb : w.heap[b]? = some o) (ho : ∀ cs T fz,o = .cells cs T fz -> T = 3) : KeepC w { w with heap:=w.heap.setIfInBounds b o' }:=λ c cs T fz x y => by
 have : b ≠ c:=by rintro rfl; rw [hb] at x; injection x with x; exact y (ho _ _ _ x)
 rw [heap_set_ne this]; exact x
theorem KeepC.grown {w w' : World} {r : Option Nat} (h : w.grownBy w' r) (hr : ∀ b,r = some b -> ∃ cs fz,w.heap[b]? = some (.cells cs 3 fz)) : KeepC w w':=λ b cs T fz x y => by
 refine (h.block b (blk_lt x) λ e => ?_).trans x
 obtain ⟨cs',fz',k⟩:=hr b e.symm
 rw [x] at k; injection k with k; injection k with _ k; exact y k
theorem SwOk.ended {w : World} {base : Nat} {S : Sw} {ls : List Ln} (h : SwOk w base S ls) {i c : Nat} {l : Ln} (hc : S.cs[i]? = some c) (hl : ls[i + 1]? = some l) {w' : World} {v : Value} {s r : Nat} {ps : List (Nat × Value)}
  (hk : ∀ b,b ≠ c -> b ≠ S.mc -> w'.heap[b]? = w.heap[b]?) (hch : w'.heap[c]? = some (.chan l.room.toNat (ints l.held).toArray true s r false)) (hps : ChanMap w S.mc ps)
  (hpl : ∀ (i c : Nat) (l : Ln),S.cs[i]? = some c -> ls[i + 1]? = some l -> (lookC c ps).isSome = l.ended) (hm : ChanMap w' S.mc (putC c v ps)) : SwOk w' base S (ls.set (i + 1) { l with ended:=true }):=by
 obtain ⟨b1,b2,s0,r0,hc0⟩:=h.chans i c l hc hl
 obtain ⟨g1,arr,g2,_⟩:=row_blk h.lines
 obtain ⟨es,clk,hm0,_⟩:=hps
 obtain ⟨t1,tps,⟨es2,clk2,hm2,he2⟩,t3,t4⟩:=h.taken
 refine ⟨?_,h.sb,?_,by rw [List.length_set]; exact h.len,?_,?_,h.nodup,⟨h.closed.1,_,hm,?_⟩,⟨t1,tps,?_,?_,t4⟩,h.ne⟩
 ·rw [hk _ (blk_ne h.st hc0 (by simp)) (blk_ne h.st hm0 (by simp))]; exact h.st
 ·exact row_at h.lines (hk _ (blk_ne g2 hc0 (by simp)) (blk_ne g2 hm0 (by simp)))
 ·rw [List.getElem?_set_ne (by omega)]; exact h.head
 ·intro j c' l' hj hl'
  by_cases e : j = i
  ·subst e
   rw [hc] at hj; injection hj with hj; subst hj
   rw [List.getElem?_set_self (by have:=(List.getElem?_eq_some_iff.1 hl).1; omega)] at hl'
   injection hl' with hl'; subst hl'
   exact ⟨b1,b2,s,r,hch⟩
  ·rw [List.getElem?_set_ne (by omega)] at hl'
   obtain ⟨d1,d2,s1,r1,hd⟩:=h.chans j c' l' hj hl'
   have hne : c' ≠ c:=by
    rintro rfl
    exact e ((List.getElem?_inj (List.getElem?_eq_some_iff.1 hj).1 h.nodup).1 (hj.trans hc.symm))
   exact ⟨d1,d2,s1,r1,by rw [hk _ hne (blk_ne hd hm0 (by simp))]; exact hd⟩
 ·intro j c' l' hj hl'
  rw [lookC_put]
  by_cases e : j = i
  ·subst e
   rw [hc] at hj; injection hj with hj; subst hj
   rw [List.getElem?_set_self (by have:=(List.getElem?_eq_some_iff.1 hl).1; omega)] at hl'
   injection hl' with hl'; subst hl'
   rw [if_pos rfl]; rfl
  ·rw [List.getElem?_set_ne (by omega)] at hl'
   have hne : c' ≠ c:=by
    rintro rfl
    exact e ((List.getElem?_inj (List.getElem?_eq_some_iff.1 hj).1 h.nodup).1 (hj.trans hc.symm))
   rw [if_neg hne]
   exact hpl j c' l' hj hl'
 ·exact ChanMap.at ⟨es2,clk2,hm2,he2⟩ (hk _ (blk_ne hm2 hc0 (by simp)) (λ e => h.ne e.symm))
 ·intro j c' l' hj hl'
  have ht : ∀ {x : Ln},TakenAt w base (lookC c' tps) x.taken -> TakenAt w' base (lookC c' tps) x.taken:=by
   intro x hx
   rcases hx with hx | ⟨g,n,cc,e1,e2⟩
   ·exact .inl hx
   ·obtain ⟨_,cur,k2,_⟩:=row_blk e2
    exact .inr ⟨g,n,cc,e1,row_at e2 (hk _ (blk_ne k2 hc0 (by simp)) (blk_ne k2 hm0 (by simp)))⟩
  by_cases e : j = i
  ·subst e
   rw [hc] at hj; injection hj with hj; subst hj
   rw [List.getElem?_set_self (by have:=(List.getElem?_eq_some_iff.1 hl).1; omega)] at hl'
   injection hl' with hl'; subst hl'
   exact ht (x:=l) (t3 j c l hc hl)
  ·rw [List.getElem?_set_ne (by omega)] at hl'
   exact ht (t3 j c' l' hj hl')
set_option maxHeartbeats 2000000 in
theorem end_any {w : World} {base : Nat} {S : Sw} {ls : List Ln} (h : SwOk w base S ls) {i c : Nat} {l : Ln} (hc : S.cs[i]? = some c) (hl : ls[i + 1]? = some l) (he : l.ended = false) (hcs : S.cs.length <= 6) :
  Calls Tryd.prog 97 #[.pointer (some ⟨S.sp,0,none⟩),.int .i64 (i + 1 : Nat)] w λ e w' => e = .returned (.tuple #[]) /\ SwOk w' base S (ls.set (i + 1) { l with ended:=true }) /\ Below base w w' /\ KeepC w w':=by
 obtain ⟨b1,b2,s0,r0,hch⟩:=h.chans i c l hc hl
 rw [he] at hch
 obtain ⟨m1,ps,hm,hps⟩:=h.closed
 obtain ⟨es,clk,hm0,hm9⟩:=hm
 have hic:=(List.getElem?_eq_some_iff.1 hc).1
 have hne:=blk_ne h.st hch (by simp)
 have hmc:=blk_ne hm0 hch (by simp)
 have ec:=blk_cell h.st
 have eg:=row_cells (j:=i + 1) (v:=.chan (some c)) h.lines (by simp [Sw.lines,hc])
 have hcl:=λ ats ty => run_close_open (P:=Tryd.prog) (w:=w) ats ty hch
 have hsp : ({ w with heap:=w.heap.setIfInBounds c (.chan l.room.toNat (ints l.held).toArray true s0 r0 false) } : World).heap[S.sp]? = _:=(heap_set_ne (λ e => hne e.symm)).trans h.st
 have ec1:=blk_cell hsp
 have hM1 : ChanMap { w with heap:=w.heap.setIfInBounds c (.chan l.room.toNat (ints l.held).toArray true s0 r0 false) } S.mc ps:=⟨es,clk,(heap_set_ne (λ e => hmc e.symm)).trans hm0,hm9⟩
 have HM1:=Lib.hid hM1
 have HH:=Lib.hid (And.intro h (And.intro hc (And.intro hl (And.intro hch (And.intro (show ChanMap w S.mc ps from ⟨es,clk,hm0,hm9⟩) (And.intro hps (And.intro hne hmc)))))))
 have i0 : (0 : Int) <= (i : Int) + 1:=by omega
 have i1 : (i : Int) + 1 < (S.cs.length : Int) + 1:=by omega
 have hz:=blk_lt hch
 clear hM1 hsp hm0 hm9 hps h hc hl hch
 go_enter Tryd.func97, Tryd.ntmps97
 go_wp2_with (at_mapUpdate; refine wpList_update_chan _ rfl (.tmp 16) (.tmp 17) (.tmp 18) 109 rfl 3 Tryd.underlying109 und_chan S.mc c _ ps rfl rfl rfl HM1.out ?_; intro w2 o2 hw2 hcm2; have HW2:=Lib.hid hw2; have HC2:=Lib.hid hcm2; clear hw2 hcm2)
 obtain ⟨h,hc,hl,hch,hm,hps,hne,hmc⟩:=HH.out
 have hw2:=HW2.out
 refine ⟨rfl,.tuple #[],?_,rfl,?_,?_,?_⟩
 ·simp [results,Tryd.results97,go_sem]
 ·refine h.ended hc hl (v:=_) (s:=s0) (r:=r0) (λ b h1 h2 => ?_) ?_ hm hps HC2.out
  ·rw [hw2]
   simp only
   rw [Array.getElem?_setIfInBounds_ne (λ e => h2 e.symm),Array.getElem?_setIfInBounds_ne (λ e => h1 e.symm)]
  ·rw [hw2]
   simp only
   rw [Array.getElem?_setIfInBounds_ne hmc,Array.getElem?_setIfInBounds_self_of_lt hz]
 ·rw [hw2]
  exact below_set (w:={ w with heap:=w.heap.setIfInBounds c (.chan l.room.toNat (ints l.held).toArray true s0 r0 false) }) (below_set (Below.refl _ _) b1) m1
 ·rw [hw2]
  obtain ⟨es,clk,hm0,_⟩:=hm
  refine (KeepC.set (w:=w) hch (by simp)).trans (KeepC.set (w:={ w with heap:=w.heap.setIfInBounds c (.chan l.room.toNat (ints l.held).toArray true s0 r0 false) }) (b:=S.mc) (o:=.map es clk) ?_ (by simp))
  rw [heap_set_ne (λ e => hmc e.symm)]; exact hm0
end Go.Proofs.YtkfafknliihabaaDoor
namespace Go.Proofs.YtkfafknliihabaaDoor
open Go.RowKit Go.Conc
def takeF (l : Ln) : Ln × List UInt8:=
 match l.held with
 | x :: xs => ({ l with held:=xs,taken:=l.taken ++ [x] },tTook x)
 | [] => (l,if l.ended then tEnded else tEmpty)
set_option maxHeartbeats 2000000 in
theorem take_none {w : World} {base : Nat} {S : Sw} {ls : List Ln} (h : SwOk w base S ls) {i c : Nat} {l : Ln} (hc : S.cs[i]? = some c) (hl : ls[i + 1]? = some l) (hh : l.held = []) :
  Calls Tryd.prog 95 #[.pointer (some ⟨S.sp,0,none⟩),.chan (some c)] w λ e w' => e = .returned (.string ⟨(takeF l).2.toArray⟩) /\ w' = w:=by
 obtain ⟨b1,b2,s0,r0,hch⟩:=h.chans i c l hc hl
 have hT : (takeF l).2 = if l.ended then tEnded else tEmpty:=by unfold takeF; rw [hh]
 rw [hT]
 rw [hh] at hch
 simp only [ints,List.map_nil] at hch
 have HC:=Lib.hid hch
 obtain ⟨t,ht⟩ : ∃ t,t = l.ended:=⟨_,rfl⟩
 rw [<- ht] at HC hch ⊢
 clear hch hT h hc hl ht
 cases t with
 | true =>
  go_enter Tryd.func95, Tryd.ntmps95
  go_upto_region 2 with fail
  refine wp_select_recv_shut (c:=c) (z:=.int .i64 0) rfl rfl (by simp [go_sem,execOp,rcase,Act.eval]) HC.out ?_
  go_wp2
  go_ret
  exact ⟨rfl,rfl⟩
 | false =>
  go_enter Tryd.func95, Tryd.ntmps95
  go_upto_region 2 with fail
  refine wp_select_recv_empty (c:=c) (z:=.int .i64 0) rfl rfl (by simp [go_sem,execOp,rcase,Act.eval]) HC.out ?_
  go_wp2
  go_ret
  exact ⟨rfl,rfl⟩
end Go.Proofs.YtkfafknliihabaaDoor
namespace Go.Proofs.YtkfafknliihabaaDoor
open Go.RowKit Go.Conc
theorem SwOk.took {w : World} {base : Nat} {S : Sw} {ls : List Ln} (h : SwOk w base S ls) {i c : Nat} {l : Ln} {x : Int} {xs : List Int} (hc : S.cs[i]? = some c) (hl : ls[i + 1]? = some l) (hh : l.held = x :: xs) {w' : World} {s r : Nat} {ps : List (Nat × Value)} {g cc : Nat}
  (hps : ChanMap w S.mt ps) (hold : ∀ (i c : Nat) (l : Ln),S.cs[i]? = some c -> ls[i + 1]? = some l -> TakenAt w base (lookC c ps) l.taken)
  (hinj : ∀ c c' b,c ∈ S.cs -> c' ∈ S.cs -> takenBlk (lookC c ps) = some b -> takenBlk (lookC c' ps) = some b -> c = c')
  (hk : ∀ b,b < w.heap.size -> b ≠ c -> b ≠ S.mt -> some b ≠ takenBlk (lookC c ps) -> w'.heap[b]? = w.heap[b]?) (hch : w'.heap[c]? = some (.chan l.room.toNat (ints xs).toArray l.ended s r false))
  (hg : some g = takenBlk (lookC c ps) \/ w.heap.size <= g)
  (hown : w'.ownsRow base 3 1 (.slice (some ⟨g,0,none⟩) (l.taken.length + 1) cc) (l.taken.length + 1) (ints (l.taken ++ [x])))
  (hm : ChanMap w' S.mt (putC c (.slice (some ⟨g,0,none⟩) (l.taken.length + 1) cc) ps)) : SwOk w' base S (ls.set (i + 1) { l with held:=xs,taken:=l.taken ++ [x] }):=by
 obtain ⟨b1,b2,s0,r0,hc0⟩:=h.chans i c l hc hl
 obtain ⟨g1,arr,g2,_⟩:=row_blk h.lines
 obtain ⟨es,clk,hm0,hm9⟩:=hps
 obtain ⟨q1,cps,⟨es2,clk2,hq2,hq3⟩,q4⟩:=h.closed
 have hil:=(List.getElem?_eq_some_iff.1 hl).1
 have hcm : c ∈ S.cs:=List.mem_of_getElem? hc
 have hint : ∀ {b : Nat} {o : Obj},w.heap[b]? = some o -> (∀ cs,o ≠ .cells cs 3) -> some b ≠ takenBlk (lookC c ps):=by
  intro b o hb ho e
  rcases hold i c l hc hl with ⟨e1,_⟩ | ⟨g',n',c',e1,e2⟩
  ·rw [e1] at e; cases e
  ·rw [e1] at e
   injection e with e
   have e : b = g':=e
   subst e
   obtain ⟨_,cur,k2,_⟩:=row_blk e2
   rw [hb] at k2; injection k2 with k2
   exact ho cur k2
 have hnj : ∀ {j c' : Nat},S.cs[j]? = some c' -> j ≠ i -> c' ≠ c:=by
  intro j c' hj hne e
  subst e
  exact hne ((List.getElem?_inj (List.getElem?_eq_some_iff.1 hj).1 h.nodup).1 (hj.trans hc.symm))
 refine ⟨?_,h.sb,?_,by rw [List.length_set]; exact h.len,?_,?_,h.nodup,⟨q1,cps,?_,?_⟩,⟨h.taken.1,_,hm,?_,?_⟩,h.ne⟩
 ·rw [hk _ (blk_lt h.st) (blk_ne h.st hc0 (by simp)) (blk_ne h.st hm0 (by simp)) (hint h.st (by intro cs e; cases e))]; exact h.st
 ·exact row_at h.lines (hk _ (blk_lt g2) (blk_ne g2 hc0 (by simp)) (blk_ne g2 hm0 (by simp)) (hint g2 (by intro cs e; cases e)))
 ·rw [List.getElem?_set_ne (by omega)]; exact h.head
 ·intro j c' l' hj hl'
  by_cases e : j = i
  ·subst e
   rw [hc] at hj; injection hj with hj; subst hj
   rw [List.getElem?_set_self hil] at hl'
   injection hl' with hl'; subst hl'
   exact ⟨b1,b2,s,r,hch⟩
  ·rw [List.getElem?_set_ne (by omega)] at hl'
   obtain ⟨d1,d2,s1,r1,hd⟩:=h.chans j c' l' hj hl'
   exact ⟨d1,d2,s1,r1,by rw [hk _ (blk_lt hd) (hnj hj e) (blk_ne hd hm0 (by simp)) (hint hd (by intro cs e; cases e))]; exact hd⟩
 ·exact ChanMap.at ⟨es2,clk2,hq2,hq3⟩ (hk _ (blk_lt hq2) (blk_ne hq2 hc0 (by simp)) h.ne (hint hq2 (by intro cs e; cases e)))
 ·intro j c' l' hj hl'
  by_cases e : j = i
  ·subst e
   rw [hc] at hj; injection hj with hj; subst hj
   rw [List.getElem?_set_self hil] at hl'
   injection hl' with hl'; subst hl'
   exact q4 j c l hc hl
  ·rw [List.getElem?_set_ne (by omega)] at hl'
   exact q4 j c' l' hj hl'
 ·intro j c' l' hj hl'
  rw [lookC_put]
  by_cases e : j = i
  ·subst e
   rw [hc] at hj; injection hj with hj; subst hj
   rw [List.getElem?_set_self hil] at hl'
   injection hl' with hl'; subst hl'
   rw [if_pos rfl]
   exact .inr ⟨g,_,cc,rfl,hown⟩
  ·rw [List.getElem?_set_ne (by omega)] at hl'
   rw [if_neg (hnj hj e)]
   rcases hold j c' l' hj hl' with hx | ⟨g',n',c2,e1,e2⟩
   ·exact .inl hx
   ·obtain ⟨_,cur,k2,_⟩:=row_blk e2
    refine .inr ⟨g',n',c2,e1,row_at e2 (hk _ (blk_lt k2) (blk_ne k2 hc0 (by simp)) (blk_ne k2 hm0 (by simp)) ?_)⟩
    intro e'
    exact hnj hj e (hinj c' c g' (List.mem_of_getElem? hj) hcm (by rw [e1]; rfl) e'.symm)
 ·intro c1 c2 b m1 m2 t1 t2
  rw [lookC_put] at t1 t2
  have hold' : ∀ {c' : Nat},c' ∈ S.cs -> takenBlk (lookC c' ps) = some b -> b < w.heap.size:=by
   intro c' hm' ht
   obtain ⟨j,hj⟩:=List.mem_iff_getElem?.1 hm'
   have hj2:=(List.getElem?_eq_some_iff.1 hj).1
   have hlen:=h.len
   obtain ⟨l',hl'⟩ : ∃ l',ls[j + 1]? = some l':=⟨_,List.getElem?_eq_getElem (by omega)⟩
   rcases hold j c' l' hj hl' with ⟨e1,_⟩ | ⟨g',n',c2,e1,e2⟩
   ·rw [e1] at ht; cases ht
   ·rw [e1] at ht
    injection ht with ht
    have ht : g' = b:=ht
    subst ht
    obtain ⟨_,cur,k2,_⟩:=row_blk e2
    exact blk_lt k2
  have same : ∀ {c' : Nat},c' ∈ S.cs -> takenBlk (lookC c' ps) = some b -> g = b -> c' = c:=by
   intro c' hm' ht eb
   subst eb
   rcases hg with e | e
   ·exact hinj c' c g hm' hcm ht e.symm
   ·have:=hold' hm' ht; omega
  by_cases e1 : c1 = c
  ·by_cases e2 : c2 = c
   ·rw [e1,e2]
   ·rw [if_pos e1] at t1; rw [if_neg e2] at t2
    injection t1 with t1
    exact absurd (same m2 t2 t1) e2
  ·by_cases e2 : c2 = c
   ·rw [if_neg e1] at t1; rw [if_pos e2] at t2
    injection t2 with t2
    exact absurd (same m1 t1 t2) e1
   ·rw [if_neg e1] at t1; rw [if_neg e2] at t2
    exact hinj c1 c2 b m1 m2 t1 t2
end Go.Proofs.YtkfafknliihabaaDoor
namespace Go.Proofs.YtkfafknliihabaaDoor
open Go.RowKit Go.Conc Go.Sort
theorem below_alB {B : Nat} {w W : World} (h : Below B w W) (hB : B <= W.heap.size) (o : Obj) : Below B w (W.alloc o):=h.trans ((below_al (Below.refl W.heap.size W) o).mono hB)
theorem zero_ints (w : World) : (zeroValue 23).run Tryd.prog w = .ok (.slice none 0 0) w:=by
 obtain ⟨i0,hi,hz0,_,_⟩:=info_parts (show (Tryd.prog.info? 23).map (λ i => (i.zero,i.size,i.bytes)) = some (some (.slice none 0 0),1,24) by kernel_rfl)
 simp [zeroValue,typeInfo,hi,hz0]
set_option maxRecDepth 20000 in
set_option maxHeartbeats 4000000 in
theorem take_some {w : World} {base : Nat} {S : Sw} {ls : List Ln} (h : SwOk w base S ls) {i c : Nat} {l : Ln} {x : Int} {xs : List Int} (hc : S.cs[i]? = some c) (hl : ls[i + 1]? = some l) (hh : l.held = x :: xs) (hx0 : 0 <= x) (hx1 : x <= 1000) (hsm : l.taken.length <= 1000) (htab : ∀ w',Below base w w' -> Lib.TabIs Tryd.prog w' "internal/strconv.uint64pow10" .u64 Lib.pow10Tab) :
  Calls Tryd.prog 95 #[.pointer (some ⟨S.sp,0,none⟩),.chan (some c)] w λ e w' => e = .returned (.string ⟨(takeF l).2.toArray⟩) /\ SwOk w' base S (ls.set (i + 1) (takeF l).1) /\ Below base w w' /\ KeepC w w':=by
 obtain ⟨b1,b2,s0,r0,hch⟩:=h.chans i c l hc hl
 have hT : takeF l = ({ l with held:=xs,taken:=l.taken ++ [x] },tTook x):=by unfold takeF; rw [hh]
 rw [hT]
 obtain ⟨m1,ps,hm,hold,hinj⟩:=h.taken
 rw [hh] at hch
 obtain ⟨w1,hw1⟩ : ∃ w1,w1 = w.setChan c l.room.toNat (((ints (x :: xs)).toArray).extract 1 ((ints (x :: xs)).toArray).size) l.ended s0 (r0 + 1) false:=⟨_,rfl⟩
 have HC:=Lib.hid (And.intro hch hw1)
 obtain ⟨es,clk,hm0,hm9⟩:=hm
 have hne:=blk_ne h.st hch (by simp)
 have hsp : w1.heap[S.sp]? = some (.cells #[.slice (some ⟨S.gl,0,none⟩) (S.cs.length + 1) S.cl,.map (some S.mc),.map (some S.mt)] 112):=by
  rw [hw1]; simp only [World.setChan]; rw [Array.getElem?_setIfInBounds_ne (λ e => hne e.symm)]; exact h.st
 have hmc:=blk_ne hm0 (HC.out.1) (by simp)
 have hm1 : w1.heap[S.mt]? = some (.map es clk):=by rw [hw1]; simp only [World.setChan]; rw [Array.getElem?_setIfInBounds_ne (λ e => hmc e.symm)]; exact hm0
 have zmt:=blk_lt hm1
 obtain ⟨fU,hU,hU2⟩:=run_update_all (P:=Tryd.prog) Tryd.underlying110 und_chan (c:=c) (b:=S.mt) (clock:=clk) hm9
 have HU2:=Lib.hid hU2
 obtain ⟨V,hV⟩ : ∃ V,V = (lookC c ps).getD (.slice none 0 0):=⟨_,rfl⟩
 have hlk : ∀ W : World,W.heap[S.mt]? = some (.map es clk) -> (Instr.lookup 110 (.map (some S.mt)) (.chan (some c)) false).run Tryd.prog W = .ok V W:=λ W hW => by
  have:=run_lookup_chan (P:=Tryd.prog) Tryd.underlying110 und_chan (zero_ints W) (c:=c) (ps:=ps) ⟨es,clk,hW,hm9⟩ false
  rw [hV]; simpa using this
 have hVo : w1.ownsRow base 3 1 V l.taken.length (ints l.taken):=by
  rcases hold i c l hc hl with ⟨e1,e2⟩ | ⟨g,n,cc,e1,e2⟩
  ·rw [hV,e1,e2]; exact ⟨rfl,.inl ⟨rfl,rfl⟩⟩
  ·obtain ⟨_,cur,k2,_⟩:=row_blk e2
   have hn : n = l.taken.length:=by have:=e2.1; simp [ints] at this; omega
   rw [hV,e1]; subst hn
   refine row_at e2 ?_
   rw [hw1]; simp only [World.setChan]; rw [Array.getElem?_setIfInBounds_ne (λ e => (blk_ne k2 HC.out.1 (by simp)) e.symm)]
 have HVO:=Lib.hid hVo
 have hlkA:=hlk w1.drew hm1
 have hlkB:=hlk ((w1.alloc (.cells #[.int .i64 x] 3)).drew) (blk_drew (blk_alloc hm1 _))
 have hVm : ¬ some S.mt = V.ownBlock:=by
  obtain ⟨_,hq | ⟨g,cap,cur,e1,e2,e3,_⟩⟩:=hVo
  ·rw [hq.1]; simp [Value.ownBlock]
  ·rw [e1]; simp only [Value.ownBlock]
   intro e; injection e with e
   have e : S.mt = g:=e
   rw [e] at hm1; rw [hm1] at e3; cases e3
 have hVs : ¬ some S.sp = V.ownBlock:=by
  obtain ⟨_,hq | ⟨g,cap,cur,e1,e2,e3,_⟩⟩:=HVO.out
  ·rw [hq.1]; simp [Value.ownBlock]
  ·rw [e1]; simp only [Value.ownBlock]
   intro e; injection e with e
   have e : S.sp = g:=e
   rw [e] at hsp; rw [hsp] at e3; cases e3
 have HSP:=Lib.hid (And.intro hsp hVs)
 clear hVs
 have HM1:=Lib.hid (And.intro hm1 (And.intro hVm hU))
 clear hlk hVm hU hm1
 have hwb : base <= w1.heap.size:=by have:=(row_blk h.lines).1; have:=blk_lt h.st; have:=h.sb; rw [hw1]; simp [World.setChan]; omega
 obtain ⟨i0,hi0,hz0,hz1,hz2⟩:=info_parts info_int
 have HI:=Lib.hid hi0
 clear hi0 hVo hU2
 have ec:=blk_cell hsp
 have zsp:=blk_lt hsp
 clear hw1 hch
 go_enter Tryd.func95, Tryd.ntmps95
 go_upto_region 2 with fail
 refine wp_select_recv_buf (c:=c) (z:=.int .i64 0) rfl rfl (by simp [go_sem,execOp,rcase,Act.eval]) HC.out.1 (by simp [ints]) ?_
 rw [<- HC.out.2]
 have hg0 : ((ints (x :: xs)).toArray).getD 0 undef = .int .i64 x:=by simp [ints]
 rw [hg0]
 go_upto_region 7 with fail
 have HH:=Lib.hid (And.intro h (And.intro hc (And.intro hl (And.intro hold (And.intro hinj hV)))))
 have HHH:=Lib.hid hh
 clear h hc hl hold hinj hV hh hT
 go_cut [] from 15 to 28 (λ wc => ∃ g2 c2n w3,wc = { w3 with heap:=w3.heap.setIfInBounds S.mt (fU (.slice (some ⟨g2,0,none⟩) (l.taken.length + 1) c2n)) } /\ w3.ownsRow base 3 1 (.slice (some ⟨g2,0,none⟩) (l.taken.length + 1) c2n) (l.taken.length + 1) (ints l.taken ++ [.int .i64 x]) /\ ((w1.alloc (.cells #[.int .i64 x] 3)).drew).grownBy w3 V.ownBlock /\ (V.ownBlock = some g2 \/ g2 = w1.heap.size + 1))
 case first =>
  go_region_law (first
    | (refine step_append_lies _ rfl (.tmp 25) (.tmp 27) 23 rfl base 3 i0 (.int .i64 0) 1 8 Tryd.underlying23 HI.out hz0 hz1 hz2 rfl (by decide) V l.taken.length (ints l.taken) rfl ?c1 ⟨_,0,none⟩ 1 1 [.int .i64 x] rfl rfl ?c2 (by simp [Value.oneCell']) (by decide) ?c5 ?c6 ?c7 _ rfl ?_; (case c1 => exact row_below' HVO.out (by (repeat' (first | with_reducible assumption | with_reducible exact Below.refl _ _ | with_reducible apply below_al | with_reducible apply below_drew)))); (case c2 => exact World.news_of_block (cs:=#[.int .i64 x]) (by ((try with_reducible apply blk_drew); (first | with_reducible assumption | (with_reducible refine heap_new' _ _ ?_; simp) | (with_reducible refine blk_alloc ?_ _; first | with_reducible assumption | (with_reducible refine heap_new' _ _ ?_; simp)) | (with_reducible refine blk_alloc ?_ _; with_reducible refine blk_alloc ?_ _; first | with_reducible assumption | (with_reducible refine heap_new' _ _ ?_; simp)) | (with_reducible refine blk_alloc ?_ _; with_reducible refine blk_alloc ?_ _; with_reducible refine blk_alloc ?_ _; first | with_reducible assumption | (with_reducible refine heap_new' _ _ ?_; simp)))))); (case c5 => unfold maxLen; omega); (case c6 => omega); (case c7 => first | omega | (simp; omega)); intro g2 c2n w3 hown2 hgr2 hat2 hlt2; have HO2:=Lib.hid hown2; have HG2:=Lib.hid hgr2; have HAT:=Lib.hid hat2; have hm3 : w3.heap[S.mt]? = some (.map es clk):=(hgr2.block S.mt (by first | (simp; done) | (simp; omega)) HM1.out.2.1).trans (blk_drew (blk_alloc HM1.out.1 _)); have hup:=λ v => HM1.out.2.2 w3 v hm3; have hsp3:=(hgr2.block S.sp (by first | (simp; done) | (simp; omega)) HSP.out.2).trans (blk_drew (blk_alloc HSP.out.1 _)); have ec3:=blk_cell hsp3; have HM3:=Lib.hid hm3; clear hown2 hgr2 hat2 hm3))
  all_goals
   go_wp2_with fail
   go_meet
   exact ⟨g2,c2n,w3,rfl,HO2.out,HG2.out,HAT.out.imp id (λ h => h.trans (by simp))⟩
 case rest =>
  obtain ⟨g2,c2n,w3,rfl,ho2,hg2,hat⟩:=hcut
  have hb1 : Below base w w1:=by rw [HC.out.2]; exact below_setChan (Below.refl _ _) b1 _ _ _ _ _ _
  have hb3 : Below base w1 w3:=(below_drew (below_alB (Below.refl base w1) hwb _)).trans (row_below HVO.out hg2 (by simp; omega))
  have hb4 : Below base w { w3 with heap:=w3.heap.setIfInBounds S.mt (fU (.slice (some ⟨g2,0,none⟩) (l.taken.length + 1) c2n)) }:=below_set (hb1.trans hb3) m1
  have HB4:=Lib.hid hb4
  have HG:=Lib.hid (And.intro ho2 (And.intro hg2 hat))
  have hz4 : base <= ({ w3 with heap:=w3.heap.setIfInBounds S.mt (fU (.slice (some ⟨g2,0,none⟩) (l.taken.length + 1) c2n)) } : World).heap.size:=by have:=hb3.size; simp; omega
  have hll : (Lib.itoa x).length <= 20:=by
   obtain ⟨X,rfl⟩:=Int.eq_ofNat_of_zero_le hx0
   rw [Lib.itoa_nonneg]; exact dec_len (by omega)
  clear ho2 hg2 hat hb1 hb3 hb4
  generalize hwc : ({ w3 with heap:=w3.heap.setIfInBounds S.mt (fU (.slice (some ⟨g2,0,none⟩) (l.taken.length + 1) c2n)) } : World) = W4 at *
  have HWC:=Lib.hid hwc
  clear hwc
  go_wp2_with (go_at_call 94; refine (Tryd.strconv_Itoa x (by omega) (by omega) _ (htab _ HB4.out)).mono ?_; rintro e w5 ⟨rfl,kk,os,rfl⟩)
  obtain ⟨h,hc,hl,hold,hinj,hV⟩:=HH.out
  obtain ⟨ho2,hg2,hat⟩:=HG.out
  have hW4:=HWC.out
  have zw1 : w1.heap.size = w.heap.size:=by rw [HC.out.2]; simp [World.setChan]
  have zw3 : w1.heap.size + 1 <= w3.heap.size:=by have:=hg2.size; simpa using this
  have zW4 : W4.heap.size = w3.heap.size:=by rw [<- hW4]; simp
  have B5 : Below W4.heap.size W4 (grow (W4.drewN kk) os):=⟨rfl,rfl,rfl,by simp [grow],λ i hi => by
   show ((W4.drewN kk).heap ++ os)[i]? = _
   rw [Array.getElem?_append_left (by show i < W4.heap.size; omega)]
   rfl⟩
  have hVB : takenBlk (lookC c ps) = V.ownBlock:=by
   rcases hold i c l hc hl with ⟨e1,_⟩ | ⟨g,n,cc,e1,_⟩
   ·rw [hV,e1]; rfl
   ·rw [hV,e1]; rfl
  have hV4 : ∀ b,b < w.heap.size -> b ≠ S.mt -> ¬ some b = V.ownBlock -> (grow (W4.drewN kk) os).heap[b]? = w1.heap[b]?:=λ b z e2 e3 => by
   rw [B5.block b (by omega),<- hW4]
   simp only
   rw [Array.getElem?_setIfInBounds_ne (λ e => e2 e.symm),hg2.block b (by simp; omega) e3]
   exact (Below.heap_alloc _ _ _ (by omega))
  have hcV : ¬ some c = V.ownBlock:=by
   rw [<- hVB]
   rcases hold i c l hc hl with ⟨e1,_⟩ | ⟨g,n,cc,e1,e2⟩
   ·rw [e1]; simp [takenBlk]
   ·rw [e1]
    obtain ⟨_,cur,k2,_⟩:=row_blk e2
    intro e; injection e with e
    have e : c = g:=e
    exact blk_ne k2 HC.out.1 (by simp) e.symm
  have zc:=blk_lt HC.out.1
  obtain ⟨es',clk',u1,u2⟩:=HU2.out (.slice (some ⟨g2,0,none⟩) (l.taken.length + 1) c2n)
  have hm3 : w3.heap[S.mt]? = some (.map es clk):=(hg2.block S.mt (by simp; omega) HM1.out.2.1).trans (blk_drew (blk_alloc HM1.out.1 _))
  have km : (grow (W4.drewN kk) os).heap[S.mt]? = some (.map es' clk'):=by
   rw [B5.block S.mt (by omega),<- hW4]
   simp only
   rw [Array.getElem?_setIfInBounds_self_of_lt (by omega),u1]
  refine bodyPost_ret (v:=.string ⟨(tTook x).toArray⟩) ?_ rfl ⟨rfl,?_,HB4.out.trans (B5.mono hz4),?_⟩
  ·simp [results,Tryd.results95,go_sem,tTook,bytes_app]
  ·refine h.took (x:=x) (xs:=xs) (s:=s0) (r:=r0 + 1) (ps:=ps) (g:=g2) (cc:=c2n) hc hl HHH.out ⟨es,clk,hm0,hm9⟩ hold hinj (λ b z e1 e2 e3 => ?_) ?_ ?_ ?_ ⟨es',clk',km,u2⟩
   ·rw [hV4 b z e2 (by rw [<- hVB]; exact e3),HC.out.2]
    simp only [World.setChan]
    rw [Array.getElem?_setIfInBounds_ne (λ e => e1 e.symm)]
   ·rw [hV4 c zc (λ e => hmc e.symm) hcV,HC.out.2,heap_setChan _ _ _ _ _ _ _ _ zc]
    rw [show ((ints (x :: xs)).toArray).extract 1 ((ints (x :: xs)).toArray).size = (ints xs).toArray by apply Array.ext'; simp [ints]; exact List.take_of_length_le (by simp)]
   ·rw [hVB]
    rcases hat with e | e
    ·exact .inl e.symm
    ·right; omega
   ·rw [<- ints_snoc]
    obtain ⟨_,cur,k2,_⟩:=row_blk ho2
    refine row_at ho2 ((B5.block g2 (by have:=blk_lt k2; omega)).trans ?_)
    rw [<- hW4]
    simp only
    rw [Array.getElem?_setIfInBounds_ne (blk_ne hm3 k2 (by simp))]
  ·refine KeepC.trans ?_ (KeepC.below B5)
   have q1 : KeepC w w1:=by rw [HC.out.2]; exact KeepC.set HC.out.1 (by simp)
   have q2 : KeepC w1 w3:=(KeepC.below (below_drew (below_al (Below.refl _ _) _))).trans (KeepC.grown hg2 λ b e => by
    rw [<- hVB] at e
    rcases hold i c l hc hl with ⟨e1,_⟩ | ⟨g,n,cc,e1,e2⟩
    ·rw [e1] at e; simp [takenBlk] at e
    ·rw [e1] at e
     injection e with e
     have e : g = b:=e
     subst e
     obtain ⟨_,cur,k2,_⟩:=row_blk e2
     refine ⟨cur,(0,0),blk_drew (blk_alloc ?_ _)⟩
     rw [HC.out.2]; simp only [World.setChan]; rw [Array.getElem?_setIfInBounds_ne (λ e => (blk_ne k2 HC.out.1 (by simp)) e.symm)]; exact k2)
   have q3 : KeepC w3 W4:=by rw [<- hW4]; exact KeepC.set hm3 (by simp)
   exact (q1.trans q2).trans q3
end Go.Proofs.YtkfafknliihabaaDoor
namespace Go.Proofs.YtkfafknliihabaaDoor
open Go.RowKit Go.Conc
theorem SwOk.below {w w' : World} {base : Nat} {S : Sw} {ls : List Ln} (h : SwOk w base S ls) (hb : Below w.heap.size w w') : SwOk w' base S ls:=by
 have k : ∀ {b : Nat} {o : Obj},w.heap[b]? = some o -> w'.heap[b]? = w.heap[b]?:=λ {b o} e => hb.block b (blk_lt e)
 obtain ⟨q1,cps,⟨es,clk,e1,e2⟩,q4⟩:=h.closed
 obtain ⟨t1,tps,⟨es2,clk2,f1,f2⟩,t3,t4⟩:=h.taken
 refine ⟨(k h.st).trans h.st,h.sb,row_below' h.lines hb,h.len,h.head,λ i c l hc hl => ?_,h.nodup,⟨q1,cps,⟨es,clk,(k e1).trans e1,e2⟩,q4⟩,⟨t1,tps,⟨es2,clk2,(k f1).trans f1,f2⟩,λ i c l hc hl => ?_,t4⟩,h.ne⟩
 ·obtain ⟨d1,d2,s,r,hd⟩:=h.chans i c l hc hl
  exact ⟨d1,d2,s,r,(k hd).trans hd⟩
 ·rcases t3 i c l hc hl with hx | ⟨g,n,cc,x1,x2⟩
  ·exact .inl hx
  ·exact .inr ⟨g,n,cc,x1,row_below' x2 hb⟩
theorem eql_chan (a b : Option Nat) (W : World) : (binOp .eql 113 (.chan a) (.chan b)).run Tryd.prog W = .ok (.bool (a == b)) W:=by
 simp [binOp,run_equal_chan und_chan]
set_option maxRecDepth 20000 in
set_option maxHeartbeats 2000000 in
theorem do_never {w : World} {base : Nat} {S : Sw} {ls : List Ln} (h : SwOk w base S ls) (hw : base <= w.heap.size) {d : DeedD} (h0 : d.a = 0) (hl : ¬ d.act.toList = lookA) :
  Calls Tryd.prog 64 #[.pointer (some ⟨S.sp,0,none⟩),.agg #[.string d.act,.int .i64 d.a,.int .i64 d.b]] w λ e w' => e = .returned (.string ⟨tNever.toArray⟩) /\ Below w.heap.size w w':=by
 obtain ⟨s,x,y⟩:=d
 have hx : x = 0:=h0
 subst hx
 have h1 : (s.toList == [108,111,111,107]) = false:=by rw [beq_eq_false_iff_ne]; exact hl
 have ec:=blk_cell h.st
 have zs:=blk_lt h.st
 have eg:=row_cells (j:=0) (v:=.chan none) h.lines (by simp [Sw.lines])
 have zg:=blk_lt (row_blk h.lines).2.choose_spec.1
 have i1 : (0 : Int) < (S.cs.length : Int) + 1:=by omega
 have hq:=λ W => eql_chan none none W
 clear h hl h0
 go_enter Tryd.func64, Tryd.ntmps64
 go_upto_region 1 with fail
 go_region
 go_wp2
 go_ret
 exact ⟨rfl,below_drew (below_al (Below.refl _ _) _)⟩
end Go.Proofs.YtkfafknliihabaaDoor
namespace Go.Proofs.YtkfafknliihabaaDoor
open Go.RowKit Go.Conc
theorem str_ne {s l : List UInt8} (h : ¬ s = l) : (s == l) = false:=by rw [beq_eq_false_iff_ne]; exact h
theorem str_is {s l : List UInt8} (h : s = l) : (s == l) = true:=by rw [beq_iff_eq]; exact h
set_option maxRecDepth 20000 in
set_option maxHeartbeats 2000000 in
theorem do_ended {w : World} {base : Nat} {S : Sw} {ls : List Ln} (h : SwOk w base S ls) (hw : base <= w.heap.size) {d : DeedD} {i c : Nat} {l : Ln} (hc : S.cs[i]? = some c) (hl : ls[i + 1]? = some l) (h0 : d.a = (i : Int) + 1) (hk : ¬ d.act.toList = lookA) (ht : ¬ d.act.toList = takeA) (he : l.ended = true) :
  Calls Tryd.prog 64 #[.pointer (some ⟨S.sp,0,none⟩),.agg #[.string d.act,.int .i64 d.a,.int .i64 d.b]] w λ e w' => e = .returned (.string ⟨tEnded.toArray⟩) /\ Below w.heap.size w w':=by
 obtain ⟨s,x,y⟩:=d
 have hx : x = (i : Int) + 1:=h0
 subst hx
 have h1:=str_ne hk
 have h2:=str_ne ht
 unfold lookA at h1
 unfold takeA at h2
 have ec:=blk_cell h.st
 have zs:=blk_lt h.st
 have eg:=row_cells (j:=i + 1) (v:=.chan (some c)) h.lines (by simp [Sw.lines,hc])
 have zg:=blk_lt (row_blk h.lines).2.choose_spec.1
 have hic:=(List.getElem?_eq_some_iff.1 hc).1
 have i0 : (0 : Int) <= (i : Int) + 1:=by omega
 have i1 : (i : Int) + 1 < (S.cs.length : Int) + 1:=by omega
 have hq:=λ W => eql_chan (some c) none W
 have HH:=Lib.hid (And.intro h (And.intro hc (And.intro hl he)))
 clear h hl h0 hk ht hc he
 go_enter Tryd.func64, Tryd.ntmps64
 go_upto_region 1 with fail
 go_region
 go_wp2_with (go_at_call 96; refine (isEnded_any (HH.out.1.below (below_drew (below_al (Below.refl _ _) _))) HH.out.2.1 HH.out.2.2.1).mono ?_; rintro e w1 ⟨rfl,rfl⟩; rw [HH.out.2.2.2])
 go_ret
 exact ⟨rfl,below_drew (below_al (Below.refl _ _) _)⟩
set_option maxRecDepth 20000 in
set_option maxHeartbeats 2000000 in
theorem do_take_none {w : World} {base : Nat} {S : Sw} {ls : List Ln} (h : SwOk w base S ls) (hw : base <= w.heap.size) {d : DeedD} {i c : Nat} {l : Ln} (hc : S.cs[i]? = some c) (hl : ls[i + 1]? = some l) (h0 : d.a = (i : Int) + 1) (ht : d.act.toList = takeA) (hh : l.held = []) :
  Calls Tryd.prog 64 #[.pointer (some ⟨S.sp,0,none⟩),.agg #[.string d.act,.int .i64 d.a,.int .i64 d.b]] w λ e w' => e = .returned (.string ⟨(takeF l).2.toArray⟩) /\ Below w.heap.size w w':=by
 obtain ⟨s,x,y⟩:=d
 have hx : x = (i : Int) + 1:=h0
 subst hx
 have h2:=str_is ht
 have h1 : (s.toList == lookA) = false:=by rw [show s.toList = takeA from ht]; decide
 unfold lookA at h1
 unfold takeA at h2
 have ec:=blk_cell h.st
 have zs:=blk_lt h.st
 have eg:=row_cells (j:=i + 1) (v:=.chan (some c)) h.lines (by simp [Sw.lines,hc])
 have zg:=blk_lt (row_blk h.lines).2.choose_spec.1
 have hic:=(List.getElem?_eq_some_iff.1 hc).1
 have i0 : (0 : Int) <= (i : Int) + 1:=by omega
 have i1 : (i : Int) + 1 < (S.cs.length : Int) + 1:=by omega
 have hq:=λ W => eql_chan (some c) none W
 have HH:=Lib.hid (And.intro h (And.intro hc (And.intro hl hh)))
 clear h hl h0 ht hc hh
 go_enter Tryd.func64, Tryd.ntmps64
 go_upto_region 1 with fail
 go_region
 go_wp2_with (go_at_call 95; refine (take_none (HH.out.1.below (below_drew (below_al (Below.refl _ _) _))) HH.out.2.1 HH.out.2.2.1 HH.out.2.2.2).mono ?_; rintro e w1 ⟨rfl,rfl⟩)
 go_ret
 exact ⟨rfl,below_drew (below_al (Below.refl _ _) _)⟩
set_option maxRecDepth 20000 in
set_option maxHeartbeats 2000000 in
theorem do_take_some {w : World} {base : Nat} {S : Sw} {ls : List Ln} (h : SwOk w base S ls) (hw : base <= w.heap.size) {d : DeedD} {i c : Nat} {l : Ln} (hc : S.cs[i]? = some c) (hl : ls[i + 1]? = some l) (h0 : d.a = (i : Int) + 1) {x : Int} {xs : List Int} (ht : d.act.toList = takeA) (hh : l.held = x :: xs) (hx0 : 0 <= x) (hx1 : x <= 1000) (hsm : l.taken.length <= 1000) (htab : ∀ w',Below base w w' -> Lib.TabIs Tryd.prog w' "internal/strconv.uint64pow10" .u64 Lib.pow10Tab) :
  Calls Tryd.prog 64 #[.pointer (some ⟨S.sp,0,none⟩),.agg #[.string d.act,.int .i64 d.a,.int .i64 d.b]] w λ e w' => e = .returned (.string ⟨(takeF l).2.toArray⟩) /\ SwOk w' base S (ls.set (i + 1) (takeF l).1) /\ Below base w w' /\ KeepC w w':=by
 have BW : ∀ o,Below base w ((w.alloc o).drew):=λ o => below_drew ((below_al (Below.refl _ _) o).mono hw)
 have HT:=Lib.hid (And.intro hx0 (And.intro hx1 (And.intro hsm (And.intro htab BW))))
 obtain ⟨s,z,y⟩:=d
 have hx : z = (i : Int) + 1:=h0
 subst hx
 have h2:=str_is ht
 have h1 : (s.toList == lookA) = false:=by rw [show s.toList = takeA from ht]; decide
 unfold lookA at h1
 unfold takeA at h2
 have ec:=blk_cell h.st
 have zs:=blk_lt h.st
 have eg:=row_cells (j:=i + 1) (v:=.chan (some c)) h.lines (by simp [Sw.lines,hc])
 have zg:=blk_lt (row_blk h.lines).2.choose_spec.1
 have hic:=(List.getElem?_eq_some_iff.1 hc).1
 have i0 : (0 : Int) <= (i : Int) + 1:=by omega
 have i1 : (i : Int) + 1 < (S.cs.length : Int) + 1:=by omega
 have hq:=λ W => eql_chan (some c) none W
 have HH:=Lib.hid (And.intro h (And.intro hc (And.intro hl hh)))
 clear h hl h0 ht hc hh hx0 hx1 hsm htab BW
 go_enter Tryd.func64, Tryd.ntmps64
 go_upto_region 1 with fail
 go_region
 go_wp2_with (go_at_call 95; refine (take_some (HH.out.1.below (below_drew (below_al (Below.refl _ _) _))) HH.out.2.1 HH.out.2.2.1 HH.out.2.2.2 HT.out.1 HT.out.2.1 HT.out.2.2.1 (λ w' hb => HT.out.2.2.2.1 w' ((HT.out.2.2.2.2 _).trans hb))).mono ?_; rintro e w1 ⟨rfl,hs1,hb1,hk1⟩)
 go_ret
 exact ⟨rfl,hs1,(HT.out.2.2.2.2 _).trans hb1,(KeepC.below (below_drew (below_al (Below.refl _ _) _))).trans hk1⟩
set_option maxRecDepth 20000 in
set_option maxHeartbeats 2000000 in
theorem do_end {w : World} {base : Nat} {S : Sw} {ls : List Ln} (h : SwOk w base S ls) (hw : base <= w.heap.size) {d : DeedD} {i c : Nat} {l : Ln} (hc : S.cs[i]? = some c) (hl : ls[i + 1]? = some l) (h0 : d.a = (i : Int) + 1) (ht : d.act.toList = endA) (he : l.ended = false) (hcs : S.cs.length <= 6) :
  Calls Tryd.prog 64 #[.pointer (some ⟨S.sp,0,none⟩),.agg #[.string d.act,.int .i64 d.a,.int .i64 d.b]] w λ e w' => e = .returned (.string ⟨tEnd.toArray⟩) /\ SwOk w' base S (ls.set (i + 1) { l with ended:=true }) /\ Below base w w' /\ KeepC w w':=by
 have BW : ∀ o,Below base w ((w.alloc o).drew):=λ o => below_drew ((below_al (Below.refl _ _) o).mono hw)
 have HT:=Lib.hid (And.intro hcs BW)
 obtain ⟨s,x,y⟩:=d
 have hx : x = (i : Int) + 1:=h0
 subst hx
 have h2:=str_is ht
 have h1 : (s.toList == lookA) = false:=by rw [show s.toList = endA from ht]; decide
 have h3 : (s.toList == takeA) = false:=by rw [show s.toList = endA from ht]; decide
 unfold lookA at h1
 unfold takeA at h3
 unfold endA at h2
 have ec:=blk_cell h.st
 have zs:=blk_lt h.st
 have eg:=row_cells (j:=i + 1) (v:=.chan (some c)) h.lines (by simp [Sw.lines,hc])
 have zg:=blk_lt (row_blk h.lines).2.choose_spec.1
 have hic:=(List.getElem?_eq_some_iff.1 hc).1
 have i0 : (0 : Int) <= (i : Int) + 1:=by omega
 have i1 : (i : Int) + 1 < (S.cs.length : Int) + 1:=by omega
 have hq:=λ W => eql_chan (some c) none W
 have HH:=Lib.hid (And.intro h (And.intro hc (And.intro hl he)))
 clear h hl h0 ht hc he hcs BW
 go_enter Tryd.func64, Tryd.ntmps64
 go_upto_region 1 with fail
 go_region
 go_wp2_with (first | (go_at_call 96; refine (isEnded_any (HH.out.1.below (below_drew (below_al (Below.refl _ _) _))) HH.out.2.1 HH.out.2.2.1).mono ?_; rintro e w1 ⟨rfl,rfl⟩; rw [HH.out.2.2.2]) | (go_at_call 97; refine (end_any (HH.out.1.below (below_drew (below_al (Below.refl _ _) _))) HH.out.2.1 HH.out.2.2.1 HH.out.2.2.2 HT.out.1).mono ?_; rintro e w1 ⟨rfl,hs1,hb1,hk1⟩))
 go_ret
 exact ⟨rfl,hs1,(HT.out.2 _).trans hb1,(KeepC.below (below_drew (below_al (Below.refl _ _) _))).trans hk1⟩
end Go.Proofs.YtkfafknliihabaaDoor
namespace Go.Proofs.YtkfafknliihabaaDoor
open Go.RowKit Go.Conc
theorem SwOk.held {w : World} {base : Nat} {S : Sw} {ls : List Ln} (h : SwOk w base S ls) {i c : Nat} {l : Ln} (hc : S.cs[i]? = some c) (hl : ls[i + 1]? = some l) {w' : World} {ys : List Int} {s r : Nat}
  (hk : ∀ b,b ≠ c -> w'.heap[b]? = w.heap[b]?) (hch : w'.heap[c]? = some (.chan l.room.toNat (ints ys).toArray l.ended s r false)) : SwOk w' base S (ls.set (i + 1) { l with held:=ys }):=by
 obtain ⟨b1,b2,s0,r0,hc0⟩:=h.chans i c l hc hl
 obtain ⟨g1,arr,g2,_⟩:=row_blk h.lines
 obtain ⟨c1,cps,⟨es,clk,hm0,he0⟩,c3⟩:=h.closed
 obtain ⟨t1,tps,⟨es2,clk2,hm2,he2⟩,t3,t4⟩:=h.taken
 have hi : i + 1 < ls.length:=(List.getElem?_eq_some_iff.1 hl).1
 have hn : ∀ {j c' : Nat},S.cs[j]? = some c' -> j ≠ i -> c' ≠ c:=by
  rintro j c' hj e rfl
  exact e ((List.getElem?_inj (List.getElem?_eq_some_iff.1 hj).1 h.nodup).1 (hj.trans hc.symm))
 refine ⟨?_,h.sb,?_,by rw [List.length_set]; exact h.len,?_,?_,h.nodup,⟨c1,cps,ChanMap.at ⟨es,clk,hm0,he0⟩ (hk _ (blk_ne hm0 hc0 (by simp))),?_⟩,⟨t1,tps,ChanMap.at ⟨es2,clk2,hm2,he2⟩ (hk _ (blk_ne hm2 hc0 (by simp))),?_,t4⟩,h.ne⟩
 ·rw [hk _ (blk_ne h.st hc0 (by simp))]; exact h.st
 ·exact row_at h.lines (hk _ (blk_ne g2 hc0 (by simp)))
 ·rw [List.getElem?_set_ne (by omega)]; exact h.head
 ·intro j c' l' hj hl'
  by_cases e : j = i
  ·subst e
   rw [hc] at hj; injection hj with hj; subst hj
   rw [List.getElem?_set_self hi] at hl'
   injection hl' with hl'; subst hl'
   exact ⟨b1,b2,s,r,hch⟩
  ·rw [List.getElem?_set_ne (by omega)] at hl'
   obtain ⟨d1,d2,s1,r1,hd⟩:=h.chans j c' l' hj hl'
   exact ⟨d1,d2,s1,r1,by rw [hk _ (hn hj e)]; exact hd⟩
 ·intro j c' l' hj hl'
  by_cases e : j = i
  ·subst e
   rw [List.getElem?_set_self hi] at hl'
   injection hl' with hl'; subst hl'
   exact c3 j c' l hj hl
  ·rw [List.getElem?_set_ne (by omega)] at hl'
   exact c3 j c' l' hj hl'
 ·intro j c' l' hj hl'
  have ht : ∀ {x : Ln},TakenAt w base (lookC c' tps) x.taken -> TakenAt w' base (lookC c' tps) x.taken:=by
   intro x hx
   rcases hx with hx | ⟨g,n,cc,e1,e2⟩
   ·exact .inl hx
   ·obtain ⟨_,cur,k2,_⟩:=row_blk e2
    exact .inr ⟨g,n,cc,e1,row_at e2 (hk _ (blk_ne k2 hc0 (by simp)))⟩
  by_cases e : j = i
  ·subst e
   rw [List.getElem?_set_self hi] at hl'
   injection hl' with hl'; subst hl'
   exact ht (x:=l) (t3 j c' l hj hl)
  ·rw [List.getElem?_set_ne (by omega)] at hl'
   exact ht (t3 j c' l' hj hl')
set_option maxRecDepth 20000 in
set_option maxHeartbeats 2000000 in
theorem do_full {w : World} {base : Nat} {S : Sw} {ls : List Ln} (h : SwOk w base S ls) (hw : base <= w.heap.size) {d : DeedD} {i c : Nat} {l : Ln} (hc : S.cs[i]? = some c) (hl : ls[i + 1]? = some l) (h0 : d.a = (i : Int) + 1) (ht : d.act.toList = putA) (he : l.ended = false) (hr : l.room <= l.held.length) :
  Calls Tryd.prog 64 #[.pointer (some ⟨S.sp,0,none⟩),.agg #[.string d.act,.int .i64 d.a,.int .i64 d.b]] w λ e w' => e = .returned (.string ⟨tFull.toArray⟩) /\ Below w.heap.size w w':=by
 obtain ⟨s,x,y⟩:=d
 have hx : x = (i : Int) + 1:=h0
 subst hx
 have h1 : (s.toList == lookA) = false:=by rw [show s.toList = putA from ht]; decide
 have h2 : (s.toList == takeA) = false:=by rw [show s.toList = putA from ht]; decide
 have h3 : (s.toList == endA) = false:=by rw [show s.toList = putA from ht]; decide
 unfold lookA at h1
 unfold takeA at h2
 unfold endA at h3
 have ec:=blk_cell h.st
 have zs:=blk_lt h.st
 have eg:=row_cells (j:=i + 1) (v:=.chan (some c)) h.lines (by simp [Sw.lines,hc])
 have zg:=blk_lt (row_blk h.lines).2.choose_spec.1
 have hic:=(List.getElem?_eq_some_iff.1 hc).1
 have i0 : (0 : Int) <= (i : Int) + 1:=by omega
 have i1 : (i : Int) + 1 < (S.cs.length : Int) + 1:=by omega
 have hq:=λ W => eql_chan (some c) none W
 obtain ⟨b1,b2,s0,r0,hch⟩:=h.chans i c l hc hl
 rw [he] at hch
 have HH:=Lib.hid (And.intro h (And.intro hc (And.intro hl (And.intro he (And.intro hch (And.intro b2 hr))))))
 clear h hl h0 ht hc he hch b2 hr
 go_enter Tryd.func64, Tryd.ntmps64
 go_upto_region 1 with fail
 go_region
 go_upto_region 15 with (go_at_call 96; refine (isEnded_any (HH.out.1.below (below_drew (below_al (Below.refl _ _) _))) HH.out.2.1 HH.out.2.2.1).mono ?_; rintro e w1 ⟨rfl,rfl⟩; rw [HH.out.2.2.2.1])
 refine wp_select_send_full (c:=c) (u:=.int .i64 y) (z':=.int .i64 0) (buf:=(ints l.held).toArray) (cap:=l.room.toNat) (s:=s0) (r:=r0) (tm:=false) rfl rfl (by simp [go_sem,execOp,scase,Act.eval]) (blk_drew (blk_alloc HH.out.2.2.2.2.1 _)) (by have:=HH.out.2.2.2.2.2; simp [ints]; omega) ?_
 go_wp2
 go_ret
 exact ⟨rfl,below_drew (below_al (Below.refl _ _) _)⟩
set_option maxRecDepth 20000 in
set_option maxHeartbeats 2000000 in
theorem do_put {w : World} {base : Nat} {S : Sw} {ls : List Ln} (h : SwOk w base S ls) (hw : base <= w.heap.size) {d : DeedD} {i c : Nat} {l : Ln} (hc : S.cs[i]? = some c) (hl : ls[i + 1]? = some l) (h0 : d.a = (i : Int) + 1) (ht : d.act.toList = putA) (he : l.ended = false) (hr : (l.held.length : Int) < l.room) :
  Calls Tryd.prog 64 #[.pointer (some ⟨S.sp,0,none⟩),.agg #[.string d.act,.int .i64 d.a,.int .i64 d.b]] w λ e w' => e = .returned (.string ⟨tPut.toArray⟩) /\ SwOk w' base S (ls.set (i + 1) { l with held:=l.held ++ [d.b] }) /\ Below base w w' /\ KeepC w w':=by
 obtain ⟨s,x,y⟩:=d
 have hx : x = (i : Int) + 1:=h0
 subst hx
 have h1 : (s.toList == lookA) = false:=by rw [show s.toList = putA from ht]; decide
 have h2 : (s.toList == takeA) = false:=by rw [show s.toList = putA from ht]; decide
 have h3 : (s.toList == endA) = false:=by rw [show s.toList = putA from ht]; decide
 unfold lookA at h1
 unfold takeA at h2
 unfold endA at h3
 have ec:=blk_cell h.st
 have zs:=blk_lt h.st
 have eg:=row_cells (j:=i + 1) (v:=.chan (some c)) h.lines (by simp [Sw.lines,hc])
 have zg:=blk_lt (row_blk h.lines).2.choose_spec.1
 have hic:=(List.getElem?_eq_some_iff.1 hc).1
 have i0 : (0 : Int) <= (i : Int) + 1:=by omega
 have i1 : (i : Int) + 1 < (S.cs.length : Int) + 1:=by omega
 have hq:=λ W => eql_chan (some c) none W
 obtain ⟨b1,b2,s0,r0,hch⟩:=h.chans i c l hc hl
 have BW : ∀ o,Below base w ((w.alloc o).drew):=λ o => below_drew ((below_al (Below.refl _ _) o).mono hw)
 have HH:=Lib.hid (And.intro h (And.intro hc (And.intro hl (And.intro he (And.intro hch (And.intro b2 (And.intro hr (And.intro BW b1))))))))
 clear h hl h0 ht hc he hch b2 hr BW b1
 go_enter Tryd.func64, Tryd.ntmps64
 go_upto_region 1 with fail
 go_region
 go_upto_region 15 with (go_at_call 96; refine (isEnded_any (HH.out.1.below (below_drew (below_al (Below.refl _ _) _))) HH.out.2.1 HH.out.2.2.1).mono ?_; rintro e w1 ⟨rfl,rfl⟩; rw [HH.out.2.2.2.1])
 refine wp_select_send_room (c:=c) (u:=.int .i64 y) (z':=.int .i64 0) (buf:=(ints l.held).toArray) (cap:=l.room.toNat) (s:=s0) (r:=r0) (tm:=false) rfl rfl (by simp [go_sem,execOp,scase,Act.eval]) (by have:=HH.out.2.2.2.2.1; rw [HH.out.2.2.2.1] at this; exact blk_drew (blk_alloc this _)) (by have:=HH.out.2.2.2.2.2.1; have:=HH.out.2.2.2.2.2.2.1; simp [ints]; omega) ?_
 go_wp2
 go_ret
 obtain ⟨h,hc,hl,he,hch,b2,hr,BW,b1⟩:=HH.out
 refine ⟨rfl,?_,below_setChan (BW _) b1 _ _ _ _ _ _,(KeepC.below (below_drew (below_al (Below.refl _ _) (.cells #[.string s,.int .i64 ((i : Int) + 1),.int .i64 y] 34)))).trans (KeepC.set (blk_drew (blk_alloc hch _)) (by simp))⟩
 have hz:=blk_lt hch
 refine (h.below (below_drew (below_al (Below.refl _ _) (.cells #[.string s,.int .i64 ((i : Int) + 1),.int .i64 y] 34)))).held (s:=s0 + 1) (r:=r0) hc hl (λ b e => ?_) ?_
 ·simp only [World.setChan]; rw [Array.getElem?_setIfInBounds_ne (λ e' => e e'.symm)]
 ·rw [he,heap_setChan _ _ _ _ _ _ _ _ (by simp; omega)]
  simp [ints]
end Go.Proofs.YtkfafknliihabaaDoor
namespace Go.Proofs.YtkfafknliihabaaDoor
open Go.RowKit Go.Conc
set_option maxRecDepth 20000 in
set_option maxHeartbeats 2000000 in
theorem do_look0 {w : World} {base : Nat} {S : Sw} {ls : List Ln} (h : SwOk w base S ls) (hw : base <= w.heap.size) {d : DeedD} (h0 : d.a = 0) (ht : d.act.toList = lookA) :
  Calls Tryd.prog 64 #[.pointer (some ⟨S.sp,0,none⟩),.agg #[.string d.act,.int .i64 d.a,.int .i64 d.b]] w λ e w' => e = .returned (.string ⟨(Lib.itoa 0).toArray⟩) /\ Below w.heap.size w w':=by
 obtain ⟨s,x,y⟩:=d
 have hx : x = 0:=h0
 subst hx
 have h1:=str_is ht
 unfold lookA at h1
 have ec:=blk_cell h.st
 have zs:=blk_lt h.st
 have eg:=row_cells (j:=0) (v:=.chan none) h.lines (by simp [Sw.lines])
 have zg:=blk_lt (row_blk h.lines).2.choose_spec.1
 have i1 : (0 : Int) < (S.cs.length : Int) + 1:=by omega
 have e0 : Lib.itoa 0 = Lib.decDigits 0:=Lib.itoa_nonneg 0
 have hI : ∀ W,Calls Tryd.prog 94 #[.int .i64 0] W (λ e w' => e = .returned (.string ⟨(Lib.decDigits 0).toArray⟩) /\ w' = W):=λ W => Tryd.strconv_Itoa_small 0 (by omega) W
 have HE:=Lib.hid e0
 have HI:=Lib.hid hI
 clear e0 hI
 have hlen : ∀ W : World,(Builtin.len_ #[113] 3 #[.chan none]).run Tryd.prog W = .ok (.int .i64 0) W:=by
  intro W
  simp [Builtin.len_,go_sem,underlying]
 clear h h0 ht
 go_enter Tryd.func64, Tryd.ntmps64
 go_upto_region 1 with fail
 go_region
 go_wp2_with (go_at_call 94; refine (HI.out _).mono ?_; rintro e w1 ⟨rfl,rfl⟩)
 go_ret
 exact ⟨by rw [HE.out]; rfl,below_drew (below_al (Below.refl _ _) _)⟩
set_option maxRecDepth 20000 in
set_option maxHeartbeats 2000000 in
theorem do_look {w : World} {base : Nat} {S : Sw} {ls : List Ln} (h : SwOk w base S ls) (hw : base <= w.heap.size) {d : DeedD} {i c : Nat} {l : Ln} (hc : S.cs[i]? = some c) (hl : ls[i + 1]? = some l) (h0 : d.a = (i : Int) + 1) (ht : d.act.toList = lookA) (hsm : l.held.length < 100) :
  Calls Tryd.prog 64 #[.pointer (some ⟨S.sp,0,none⟩),.agg #[.string d.act,.int .i64 d.a,.int .i64 d.b]] w λ e w' => e = .returned (.string ⟨(Lib.itoa l.held.length).toArray⟩) /\ Below w.heap.size w w':=by
 obtain ⟨s,x,y⟩:=d
 have hx : x = (i : Int) + 1:=h0
 subst hx
 have h1:=str_is ht
 unfold lookA at h1
 have ec:=blk_cell h.st
 have zs:=blk_lt h.st
 have eg:=row_cells (j:=i + 1) (v:=.chan (some c)) h.lines (by simp [Sw.lines,hc])
 have zg:=blk_lt (row_blk h.lines).2.choose_spec.1
 have hic:=(List.getElem?_eq_some_iff.1 hc).1
 have i0 : (0 : Int) <= (i : Int) + 1:=by omega
 have i1 : (i : Int) + 1 < (S.cs.length : Int) + 1:=by omega
 obtain ⟨b1,b2,s0,r0,hch⟩:=h.chans i c l hc hl
 have hch2 : ((w.alloc (.cells #[.string s,.int .i64 ((i : Int) + 1),.int .i64 y] 34)).drew).heap[c]? = some (.chan l.room.toNat (ints l.held).toArray l.ended s0 r0 false):=blk_drew (blk_alloc hch _)
 have hln : ((ints l.held).toArray).size = l.held.length:=by simp [ints]
 have hlen : ∀ W : World,W.heap[c]? = some (.chan l.room.toNat (ints l.held).toArray l.ended s0 r0 false) -> (Builtin.len_ #[113] 3 #[.chan (some c)]).run Tryd.prog W = .ok (.int .i64 (l.held.length : Int)) W:=by
  intro W hW
  simp [Builtin.len_,go_sem,underlying,getObj,Sem.run,hW,hln]
 have hq2:=hlen _ hch2
 clear h hl h0 ht hc hch hlen
 go_enter Tryd.func64, Tryd.ntmps64
 go_upto_region 1 with fail
 go_region
 go_wp2_with (go_at_call 94; refine (Tryd.strconv_Itoa_small l.held.length hsm _).mono ?_; rintro e w1 ⟨rfl,rfl⟩)
 go_ret
 exact ⟨by rw [Lib.itoa_nonneg]; rfl,below_drew (below_al (Below.refl _ _) _)⟩
end Go.Proofs.YtkfafknliihabaaDoor
namespace Go.Proofs.YtkfafknliihabaaDoor
open Go.RowKit Go.Conc
def LnFit (l : Ln) : Prop:=l.held.length <= 60 /\ l.taken.length <= 60 /\ ∀ x ∈ l.held,0 <= x /\ x <= 1000
theorem set_self {α : Type} {l : List α} {i : Nat} {a : α} (h : l[i]? = some a) : l.set i a = l:=by
 apply List.ext_getElem?
 intro j
 by_cases e : i = j
 ·subst e
  rw [List.getElem?_set_self (List.getElem?_eq_some_iff.1 h).1,h]
 ·rw [List.getElem?_set_ne e]
theorem do_any {w : World} {base : Nat} {S : Sw} {ls : List Ln} (h : SwOk w base S ls) (hw : base <= w.heap.size) {d : DeedD} (hd : deedP S.cs.length d) (hcs : S.cs.length <= 6) {l : Ln} (hl : ls[d.a.toNat]? = some l) (hf : LnFit l)
  (htab : ∀ w',Below base w w' -> Lib.TabIs Tryd.prog w' "internal/strconv.uint64pow10" .u64 Lib.pow10Tab) :
  Calls Tryd.prog 64 #[.pointer (some ⟨S.sp,0,none⟩),.agg #[.string d.act,.int .i64 d.a,.int .i64 d.b]] w λ e w' =>
   e = .returned (.string ⟨(doneF l d).2.toArray⟩) /\ SwOk w' base S (ls.set d.a.toNat (doneF l d).1) /\ Below base w w' /\ KeepC w w':=by
 obtain ⟨p1,p2,p3,p4,p5,p6⟩:=hd
 obtain ⟨f1,f2,f3⟩:=hf
 have still : ∀ {t : List UInt8},doneF l d = (l,t) -> (∀ (e : Ending) (w' : World),(e = .returned (.string ⟨t.toArray⟩) /\ Below w.heap.size w w') -> e = .returned (.string ⟨(doneF l d).2.toArray⟩) /\ SwOk w' base S (ls.set d.a.toNat (doneF l d).1) /\ Below base w w' /\ KeepC w w'):=by
  intro t ht e w' ⟨he,hb⟩
  rw [ht]
  refine ⟨he,?_,hb.mono hw,KeepC.below hb⟩
  simp only
  rw [set_self hl]
  exact h.below hb
 by_cases h0 : d.a = 0
 ·have hl0 : l = ⟨0,[],false,[]⟩:=by
   rw [h0] at hl
   have:=h.head
   rw [show (0 : Int).toNat = 0 from rfl,this] at hl
   injection hl with hl; exact hl.symm
  by_cases hk : d.act.toList = lookA
  ·refine (do_look0 h hw h0 hk).mono (still ?_)
   unfold doneF; rw [if_pos hk,hl0]; rfl
  ·refine (do_never h hw h0 hk).mono (still ?_)
   unfold doneF; rw [if_neg hk,if_pos h0]
 ·obtain ⟨i,hi⟩ : ∃ i : Nat,d.a = (i : Int) + 1:=⟨(d.a - 1).toNat,by omega⟩
  have hiL : d.a.toNat = i + 1:=by omega
  rw [hiL] at hl ⊢
  have hic : i < S.cs.length:=by omega
  have hc : S.cs[i]? = some S.cs[i]:=List.getElem?_eq_getElem hic
  rw [hiL] at still
  by_cases hk : d.act.toList = lookA
  ·refine (do_look h hw hc hl hi hk (by omega)).mono (still ?_)
   unfold doneF; rw [if_pos hk]
  ·by_cases ht : d.act.toList = takeA
   ·cases hh : l.held with
    | nil =>
     have hT : takeF l = doneF l d:=by
      unfold doneF takeF; rw [if_neg hk,if_neg h0,hh,ht]
      cases l.ended <;> simp
     refine (do_take_none h hw hc hl hi ht hh).mono λ e w' ⟨he,hb⟩ => still (t:=(takeF l).2) ?_ e w' ⟨he,hb⟩
     rw [<- hT]
     unfold takeF; rw [hh]
    | cons x xs =>
     have hT : takeF l = doneF l d:=by
      unfold doneF takeF; rw [if_neg hk,if_neg h0,hh,ht]
      simp
     obtain ⟨x0,x1⟩:=f3 x (by rw [hh]; exact List.mem_cons_self)
     rw [<- hT]
     exact do_take_some h hw hc hl hi ht hh x0 x1 (by omega) htab
   ·have htb : (d.act.toList == takeA) = false:=by rw [beq_eq_false_iff_ne]; exact ht
    cases he : l.ended with
    | true =>
     refine (do_ended h hw hc hl hi hk ht he).mono (still ?_)
     unfold doneF; rw [if_neg hk,if_neg h0,htb,he]
     cases l.held <;> simp
    | false =>
     by_cases hend : d.act.toList = endA
     ·have hT : doneF l d = ({ l with ended:=true },tEnd):=by
       unfold doneF; rw [if_neg hk,if_neg h0,htb,he]
       cases l.held <;> simp [hend]
      rw [hT]
      exact do_end h hw hc hl hi hend he hcs
     ·have hput : d.act.toList = putA:=by
       rcases p1 with q | q | q | q
       ·exact q
       ·exact absurd q ht
       ·exact absurd q hend
       ·exact absurd q hk
      by_cases hr : l.room <= l.held.length
      ·refine (do_full h hw hc hl hi hput he hr).mono (still ?_)
       unfold doneF; rw [if_neg hk,if_neg h0,htb,he]
       cases hh : l.held <;> rw [hh] at hr <;> simp [hend] <;> exact λ hc => absurd hr (by simpa using hc)
      ·have hT : doneF l d = ({ l with held:=l.held ++ [d.b] },tPut):=by
        unfold doneF; rw [if_neg hk,if_neg h0,htb,he]
        cases hh : l.held <;> rw [hh] at hr <;> simp [hend] <;> exact λ hc => absurd hc (by simpa using hr)
       rw [hT]
       exact do_put h hw hc hl hi hput he (by omega)
end Go.Proofs.YtkfafknliihabaaDoor
namespace Go.Proofs.YtkfafknliihabaaDoor
open Go.RowKit Go.Conc
theorem SwOk.kept {w w' : World} {base : Nat} {S : Sw} {ls : List Ln} (h : SwOk w base S ls)
  (k : ∀ (b : Nat) (o : Obj),w.heap[b]? = some o -> (∀ cs fz,o ≠ .cells cs 9 fz) -> w'.heap[b]? = some o) : SwOk w' base S ls:=by
 obtain ⟨g1,arr,g2,_⟩:=row_blk h.lines
 obtain ⟨q1,cps,⟨es,clk,e1,e2⟩,q4⟩:=h.closed
 obtain ⟨t1,tps,⟨es2,clk2,f1,f2⟩,t3,t4⟩:=h.taken
 refine ⟨k _ _ h.st (by simp),h.sb,row_at h.lines ((k _ _ g2 (by simp)).trans g2.symm),h.len,h.head,λ i c l hc hl => ?_,h.nodup,⟨q1,cps,⟨es,clk,k _ _ e1 (by simp),e2⟩,q4⟩,⟨t1,tps,⟨es2,clk2,k _ _ f1 (by simp),f2⟩,λ i c l hc hl => ?_,t4⟩,h.ne⟩
 ·obtain ⟨d1,d2,s,r,hd⟩:=h.chans i c l hc hl
  exact ⟨d1,d2,s,r,k _ _ hd (by simp)⟩
 ·rcases t3 i c l hc hl with hx | ⟨g,n,cc,x1,x2⟩
  ·exact .inl hx
  ·obtain ⟨_,cur,k2,_⟩:=row_blk x2
   exact .inr ⟨g,n,cc,x1,row_at x2 ((k _ _ k2 (by simp)).trans k2.symm)⟩
theorem row_keepC {w w' : World} {base g n c : Nat} {xs : List Value} (h : w.ownsRow base 9 1 (.slice (some ⟨g,0,none⟩) n c) n xs) (k : KeepC w w') : w'.ownsRow base 9 1 (.slice (some ⟨g,0,none⟩) n c) n xs:=by
 obtain ⟨_,cs,k2,_⟩:=row_blk h
 exact row_at h ((k _ _ _ _ k2 (by decide)).trans k2.symm)
theorem make_strings (n : Nat) (hn : n <= 1048576) : ∃ cs : Array Value,cs.size = n /\ ∀ w : World,(Instr.makeSlice 35 (.int .i64 0) (.int .i64 (n : Int))).run Tryd.prog w = .ok (.slice (some ⟨w.heap.size,0,none⟩) 0 n) (w.alloc (.cells cs 9)):=by
 obtain ⟨i,hi,hz,hs,hb⟩:=info_parts info_string
 refine ⟨madeCells (Value.cells (.string ⟨#[]⟩)) (n * 1),by rw [size_madeCells]; omega,λ w => ?_⟩
 have:=run_make (P:=Tryd.prog) w 35 9 i _ Tryd.underlying35 hi hz .i64 .i64 0 n (by omega) (by omega) (by rw [hb]; omega) (by omega)
 rw [hs] at this
 exact this
theorem row_cap {E : Nat} {w : World} {base g c : Nat} {cs : Array Value} (hb : base <= g) (hg : w.heap[g]? = some (.cells cs E)) (hc : cs.size = c) (hm : c <= maxLen) : w.ownsRow base E 1 (.slice (some ⟨g,0,none⟩) 0 c) 0 []:=
 ⟨rfl,.inr ⟨g,c,cs,rfl,hb,hg,Nat.zero_le _,hm,by omega,by simp⟩⟩
set_option maxRecDepth 20000 in
set_option maxHeartbeats 4000000 in
theorem doAll_any {w : World} {base : Nat} {S : Sw} {rooms : List Int} {ds : List DeedD} (h : SwOk w base S (openF rooms)) (hw : base <= w.heap.size) (hr : S.cs.length = rooms.length) (hd : deedsB rooms ds = true) {lo2 hi2 m c2 : Nat} {A2 : Option Addr} (h2 : Slc w lo2 hi2 3 A2 m c2 (deeds ds)) (hlo : hi2 <= base)
  (htab : ∀ w',Below base w w' -> Lib.TabIs Tryd.prog w' "internal/strconv.uint64pow10" .u64 Lib.pow10Tab) :
  Calls Tryd.prog 40 #[.pointer (some ⟨S.sp,0,none⟩),.slice A2 m c2] w λ e w' =>
   ∃ g c,e = .returned (.slice (some ⟨g,0,none⟩) m c) /\ w'.ownsRow w.heap.size 9 1 (.slice (some ⟨g,0,none⟩) m c) m (txts (runF rooms ds).2) /\ SwOk w' base S (runF rooms ds).1 /\ Below base w w':=by
 obtain ⟨⟨r1,r6⟩,hrr,d60,hdp⟩:=deedsB_of hd
 have hlm:=h2.deedLen
 have hm60 : m <= 60:=by omega
 have HDP:=Lib.hid hdp
 have HSM:=Lib.hid (runF_small hdp)
 have HLM:=Lib.hid hlm
 obtain ⟨cs0,hcs0,hmk⟩:=make_strings m (by omega)
 obtain ⟨i0,hi0,hz0,hz1,hz2⟩:=info_parts info_string
 have HI:=Lib.hid (And.intro hi0 (And.intro hz0 (And.intro hz1 hz2)))
 have HT:=Lib.hid (And.intro htab (And.intro hr r6))
 have HS:=Lib.hid h
 have HC0:=Lib.hid hcs0
 have hmw:=hmk w
 have hmz : (m : Int) <= 60:=by omega
 clear hi0 hz0 hz1 hz2 hdp hd hlm hcs0 hrr h htab hr r1 r6 d60 hmk
 go_enter Tryd.func40, Tryd.ntmps40
 go_wp2
 go_loopw [5,13] (λ v i wr => ∃ (k g c : Nat),k <= m /\ i = .int .i64 k /\ v = .slice (some ⟨g,0,none⟩) k c /\ wr.ownsRow w.heap.size 9 1 (.slice (some ⟨g,0,none⟩) k c) k (txts (runF rooms (ds.take k)).2) /\ SwOk wr base S (runF rooms (ds.take k)).1 /\ Below base w wr) (λ _ i _ => m - (intOf i).toNat)
 case atStart =>
  refine ⟨0,w.heap.size,m,Nat.zero_le _,rfl,rfl,?_,?_,?_⟩
  ·exact row_cap (Nat.le_refl _) (heap_alloc_new _ _) HC0.out (by unfold maxLen; omega)
  ·exact HS.out.below (below_al (Below.refl _ _) _)
  ·exact (below_al (Below.refl _ _) _).mono hw
 case round =>
  obtain ⟨k,g,c,hk,rfl,rfl,ho,hsw,B⟩:=hrel
  have HO:=Lib.hid (And.intro ho (And.intro hsw B))
  by_cases hlt : k < m
  ·have h2':=(h2.wide (Nat.zero_le _) hlo).keep (w':=wr) B.size (λ b _ q _ => B.block b q)
   obtain ⟨b,off,d,hA,_,_,h3,hxk,hv0,hv1,hv2⟩:=h2'.deedAt hlt
   subst hA
   have p:=HDP.out d (List.mem_of_getElem? hxk)
   have hL : d.a.toNat < (runF rooms (ds.take k)).1.length:=by
    have:=(runF_len rooms (ds.take k)).1
    have:=p.2.1
    have:=p.2.2.1
    omega
   obtain ⟨l,hl⟩ : ∃ l,(runF rooms (ds.take k)).1[d.a.toNat]? = some l:=⟨_,List.getElem?_eq_getElem hL⟩
   have hfit:=HSM.out k l (List.mem_of_getElem? hl)
   have HD:=Lib.hid (And.intro p (And.intro hl (And.intro (show LnFit l from ⟨by omega,by omega,hfit.2.2⟩) hxk)))
   have i0' : (0 : Int) <= (k : Int):=by omega
   have i1 : (k : Int) < (m : Int):=by omega
   have zw:=B.size
   obtain ⟨hi0,hz0,hz1,hz2⟩:=HI.out
   have HH:=Lib.hid hi0
   obtain ⟨D,hD⟩ : ∃ D,D = doneF l d:=⟨_,rfl⟩
   have HDD:=Lib.hid hD
   clear ho hsw B h2' h2 p hL hl hfit hxk hi0 hD hmw
   obtain ⟨s,x,y⟩:=d
   have hb1 : ∀ o,Below base w (wr.alloc o):=λ o => HO.out.2.2.trans ((below_al (Below.refl _ _) o).mono (Nat.le_trans hw zw))
   have HB1:=Lib.hid hb1
   have hwz : base <= wr.heap.size:=Nat.le_trans hw zw
   clear hb1
   go_wp2_with (first
    | (go_at_call 64; refine (do_any (d:=⟨s,x,y⟩) (HO.out.2.1.below (below_al (Below.refl _ _) _)) ?c1 (by rw [HT.out.2.1]; exact HD.out.1) ?c2 HD.out.2.1 HD.out.2.2.1 (λ w' hb => HT.out.1 w' ((HB1.out _).trans hb))).mono ?_; (case c1 => simp; omega); (case c2 => have:=HT.out.2.2; have:=HT.out.2.1; omega); rintro e w1 ⟨rfl,hs1,hb1,hk1⟩; have HS1:=Lib.hid (And.intro hs1 (And.intro hb1 hk1)); have z1:=hb1.size; simp only [World.size_alloc] at z1; rw [<- HDD.out]; clear hs1 hb1 hk1)
    | (at_builtin; refine wpList_append_lies _ rfl (.tmp 17) (.tmp 21) 35 rfl w.heap.size 9 i0 (.string ⟨#[]⟩) 1 16 Tryd.underlying35 HH.out hz0 hz1 hz2 rfl (by decide) (.slice (some ⟨g,0,none⟩) k c) k (txts (runF rooms (ds.take k)).2) rfl ?c1 ⟨_,0,none⟩ 1 1 [.string ⟨D.2.toArray⟩] rfl rfl ?c3 ?c4 (by decide) ?c5 ?c6 ?c2 _ rfl ?_; (case c3 => exact cell_one_new _ _ _); (case c4 => simp [Value.oneCell']); (case c5 => unfold maxLen; omega); (case c6 => omega); (case c1 => exact row_below' (row_keepC (row_below' HO.out.1 (below_al (Below.refl _ _) _)) HS1.out.2.2) (below_al (Below.refl _ _) _)); (case c2 => simp; omega); intro g2 c2n w2 hown2 hgr2 hat2 hlt2; have HO2:=Lib.hid hown2; have HG2:=Lib.hid hgr2; have HAT:=Lib.hid hat2; clear hown2 hgr2 hat2))
   go_roundw
   case rel =>
    have hst:=runF_take (rooms:=rooms) HD.out.2.2.2
    have hge : (runF rooms (ds.take k)).1.getD x.toNat ⟨0,[],false,[]⟩ = l:=by rw [List.getD_eq_getElem?_getD,show (runF rooms (ds.take k)).1[x.toNat]? = some l from HD.out.2.1]; rfl
    have hst2 : runF rooms (ds.take (k + 1)) = ((runF rooms (ds.take k)).1.set x.toNat D.1,(runF rooms (ds.take k)).2 ++ [D.2]):=by rw [hst]; unfold stepF; rw [hge,<- HDD.out]
    refine ⟨k + 1,g2,c2n,by omega,by go_num,rfl,?_,?_,?_⟩
    ·rw [hst2]; simp only; rw [txts_snoc]; exact HO2.out
    ·rw [hst2]
     have hs1:=HS1.out.1
     rw [<- HDD.out] at hs1
     refine (hs1.below (below_al (Below.refl _ _) (.cells #[.string ⟨D.2.toArray⟩] 9))).kept λ b o hb hne => ?_
     refine (HG2.out.block b (blk_lt hb) λ e => ?_).trans hb
     have e : b = g:=by simpa [Value.ownBlock] using e
     subst e
     obtain ⟨_,cs,k2,_⟩:=row_blk (row_below' (row_keepC (row_below' HO.out.1 (below_al (Below.refl _ _) _)) HS1.out.2.2) (below_al (Below.refl _ _) (.cells #[.string ⟨D.2.toArray⟩] 9)))
     rw [hb] at k2; injection k2 with k2; exact hne _ _ k2
    ·refine ((HB1.out _).trans HS1.out.2.1).trans ?_
     have hgr:=HG2.out
     obtain ⟨hg,_⟩:=row_blk HO.out.1
     exact ⟨hgr.os,hgr.tape,hgr.output,by have:=hgr.size; rw [World.size_alloc] at this; omega,λ i hi => (hgr.block i (by rw [World.size_alloc]; omega) (λ e => by simp [Value.ownBlock] at e; omega)).trans (Below.heap_alloc _ _ _ (by omega))⟩
   case measure => simp [intOf]; omega
  ·have e : k = m:=by omega
   subst e
   go_wp2
   go_ret
   have hs:=HO.out
   rw [List.take_of_length_le (Nat.le_of_eq HLM.out)] at hs
   exact ⟨g,c,rfl,hs.1,hs.2.1,hs.2.2⟩
end Go.Proofs.YtkfafknliihabaaDoor
namespace Go.Proofs.YtkfafknliihabaaDoor
open Go.RowKit
theorem allF_snoc {α : Type} {p : α -> Bool} {l : List α} {k : Nat} {a : α} (h : ∀ j,j < k -> ∀ b,l[j]? = some b -> p b = true) (hk : l[k]? = some a) (ha : p a = true) : ∀ j,j < k + 1 -> ∀ b,l[j]? = some b -> p b = true:=by
 intro j hj b hb
 by_cases e : j = k
 ·subst e; rw [hk] at hb; injection hb with hb; subst hb; exact ha
 ·exact h j (by omega) b hb
theorem allF_of {α : Type} {p : α -> Bool} {l : List α} {k : Nat} (h : ∀ j,j < k -> ∀ b,l[j]? = some b -> p b = true) (hk : l.length <= k) : l.all p = true:=by
 rw [List.all_eq_true]; intro a ha
 obtain ⟨j,hj,e⟩:=List.mem_iff_getElem.1 ha
 exact h j (by omega) a (by rw [List.getElem?_eq_getElem hj,e])
theorem allF_not {α : Type} {p : α -> Bool} {l : List α} {k : Nat} {a : α} (hk : l[k]? = some a) (ha : p a = false) : l.all p = false:=by
 rw [List.all_eq_false]; exact ⟨a,List.mem_of_getElem? hk,by simp [ha]⟩
theorem roomsB_not {l : List Int} (h : l.all roomB = false) : roomsB l = false:=by simp only [roomsB,h,Bool.and_false]
theorem roomsB_len {l : List Int} (h : ¬ (1 <= l.length /\ l.length <= 6)) : roomsB l = false:=by simp only [roomsB,h,decide_false,Bool.false_and]
theorem roomsB_all {l : List Int} (h : l.all roomB = true) : roomsB l = decide (1 <= l.length /\ l.length <= 6):=by simp only [roomsB,h,Bool.and_true]
set_option maxHeartbeats 1000000 in
theorem spec_RoomsValid (lo hi n c : Nat) (A : Option Addr) (xs : List Int) (w : World) (h : Slc w lo hi 1 A n c (ints xs)) (hn : n <= 1048576) :
  Calls Tryd.prog 90 #[.slice A n c] w λ e w' => e = .returned (.bool (roomsB xs)) /\ w' = w:=by
 have hl:=Lib.hid h.length
 go_enter Tryd.func90, Tryd.ntmps90
 go_wp2
 go_loop [3] (λ i => ∃ k : Nat,k <= n /\ i = .int .i64 k /\ ∀ j,j < k -> ∀ b,xs[j]? = some b -> roomB b = true) (λ i => n - (intOf i).toNat)
 case atStart => exact ⟨0,Nat.zero_le _,rfl,λ j hj => absurd hj (by omega)⟩
 case round =>
  obtain ⟨k,hk,rfl,hcs⟩:=hrel
  have HC:=Lib.hid hcs
  clear hcs
  by_cases hlt : k < n
  ·obtain ⟨b,off,x,rfl,_,_,h3,hxk,hv⟩:=h.cellAt hlt
   have HX:=Lib.hid hxk
   clear hxk h
   by_cases hx : inB x 0 8 = true
   ·have HT:=Lib.hid hx
    go_wp2_with ((go_at_call 35; refine (l1In_any _ _ _ _).mono ?_; rintro e w' ⟨rfl,rfl⟩))
    go_round
    case rel => exact ⟨k + 1,by omega,by go_num,allF_snoc HC.out HX.out HT.out⟩
    case measure => simp [intOf]; omega
   ·have hx' : inB x 0 8 = false:=by simpa using hx
    have HT:=Lib.hid hx'
    clear hx
    go_wp2_with ((go_at_call 35; refine (l1In_any _ _ _ _).mono ?_; rintro e w' ⟨rfl,rfl⟩))
    go_ret
    exact ⟨ret_bool (roomsB_not (allF_not HX.out HT.out)).symm,rfl⟩
  ·have e : k = n:=by omega
   have HE:=Lib.hid e
   clear e h
   go_wp2_with ((go_at_call 35; refine (l1In_any _ _ _ _).mono ?_; rintro e w' ⟨rfl,rfl⟩))
   go_ret
   refine ⟨ret_bool ?_,rfl⟩
   rw [roomsB_all (allF_of HC.out (by rw [hl.out,HE.out]; exact Nat.le_refl _)),Bool.eq_iff_iff]
   simp [inB,hl.out]; omega
set_option maxHeartbeats 1000000 in
theorem impl_RoomsValid (lo hi n c : Nat) (A : Option Addr) (xs : List Int) (w : World) (h : Slc w lo hi 1 A n c (ints xs)) (hn : n <= 1048576) :
  Calls Tryd.prog 62 #[.slice A n c] w λ e w' => e = .returned (.bool (roomsB xs)) /\ w' = w:=by
 have hl:=Lib.hid h.length
 by_cases hn6 : 1 <= n /\ n <= 6
 ·have g1 : 1 <= n:=hn6.1
  have g2 : n <= 6:=hn6.2
  go_enter Tryd.func62, Tryd.ntmps62
  go_wp2
  go_loop [15] (λ i => ∃ k : Nat,k <= n /\ i = .int .i64 k /\ ∀ j,j < k -> ∀ b,xs[j]? = some b -> roomB b = true) (λ i => n - (intOf i).toNat)
  case atStart => exact ⟨0,Nat.zero_le _,rfl,λ j hj => absurd hj (by omega)⟩
  case round =>
   obtain ⟨k,hk,rfl,hcs⟩:=hrel
   have HC:=Lib.hid hcs
   clear hcs
   by_cases hlt : k < n
   ·obtain ⟨b,off,x,rfl,_,_,h3,hxk,hv⟩:=h.cellAt hlt
    have HX:=Lib.hid hxk
    clear hxk h
    by_cases hx : 0 <= x /\ x <= 8
    ·have HT:=Lib.hid (show roomB x = true by simp [roomB,inB]; exact hx)
     have x0:=hx.1
     have x1:=hx.2
     clear hx
     go_wp2
     go_round
     case rel => first | exact ⟨k + 1,by omega,by go_num,allF_snoc HC.out HX.out HT.out⟩ | ((repeat apply Exists.intro); exact ⟨⟨k + 1,by omega,by go_num,allF_snoc HC.out HX.out HT.out⟩,rfl⟩)
     case measure => simp [intOf]; omega
    ·have HT:=Lib.hid (show roomB x = false by simp [roomB,inB]; omega)
     have x1 : x < 0 \/ (0 <= x /\ 8 < x):=by omega
     clear hx
     rcases x1 with x1 | ⟨x0,x1⟩
     all_goals go_wp2
     all_goals go_ret
     all_goals exact ⟨ret_bool (roomsB_not (allF_not HX.out HT.out)).symm,rfl⟩
   ·have e : k = n:=by omega
    have HE:=Lib.hid e
    clear e h
    go_wp2
    go_ret
    refine ⟨ret_bool ?_,rfl⟩
    rw [roomsB_all (allF_of HC.out (by rw [hl.out,HE.out]; exact Nat.le_refl _))]
    simp [hl.out]; omega
 ·have HF:=Lib.hid (roomsB_len (l:=xs) (by rw [hl.out]; exact hn6))
  have hx : n < 1 \/ 6 < n:=by omega
  clear hn6 h
  rcases hx with hx | hx
  all_goals
   go_enter Tryd.func62, Tryd.ntmps62
   go_wp2
   go_ret
   exact ⟨ret_bool HF.out.symm,rfl⟩
set_option maxHeartbeats 1000000 in
theorem spec_l1Words (s : ByteArray) (w : World) :
  Calls Tryd.prog 106 #[.string s] w λ e w' => e = .returned (.bool (s.toList == putA)) /\ w' = w:=by
 go_enter Tryd.func106, Tryd.ntmps106
 go_wp2
 go_ret
 exact ⟨ret_bool (by simp [putA]),rfl⟩
def actB (s : List UInt8) : Bool:=s == putA || s == takeA || s == endA || s == lookA
set_option maxHeartbeats 1000000 in
theorem spec_l1Act (s : ByteArray) (w : World) :
  Calls Tryd.prog 105 #[.string s] w λ e w' => e = .returned (.bool (actB s.toList)) /\ w' = w:=by
 go_enter Tryd.func105, Tryd.ntmps105
 go_wp2
 all_goals go_ret
 all_goals exact ⟨ret_bool (by simp_all [actB,putA,takeA,endA,lookA]),rfl⟩
set_option maxHeartbeats 2000000 in
theorem spec_l1Deed (d : DeedD) (lines : Int) (w : World) :
  Calls Tryd.prog 89 #[.agg #[.string d.act,.int .i64 d.a,.int .i64 d.b],.int .i64 lines] w λ e w' => e = .returned (.bool (deedB lines d)) /\ Below w.heap.size w w':=by
 obtain ⟨s,x,y⟩:=d
 go_enter Tryd.func89, Tryd.ntmps89
 go_wp2_with (first | (go_at_call 35; refine (l1In_any _ _ _ _).mono ?_; rintro e w' ⟨rfl,rfl⟩) | (go_at_call 105; refine (spec_l1Act _ _).mono ?_; rintro e w' ⟨rfl,rfl⟩) | (go_at_call 106; refine (spec_l1Words _ _).mono ?_; rintro e w' ⟨rfl,rfl⟩))
 all_goals go_ret
 all_goals refine ⟨ret_bool ?_,below_al (Below.refl _ _) _⟩
 all_goals rw [Bool.eq_iff_iff]
 all_goals simp [deedB,deedP,actB,inB] at *
 all_goals grind
theorem validB_of (lines : Int) (d : DeedD) : deedB lines d = true ↔ deedP lines d:=by simp [deedB]
set_option maxHeartbeats 4000000 in
theorem impl_DeedValid (d : DeedD) (lines : Int) (w : World) :
  Calls Tryd.prog 63 #[.agg #[.string d.act,.int .i64 d.a,.int .i64 d.b],.int .i64 lines] w λ e w' => e = .returned (.bool (inB lines 1 6 && deedB lines d)) /\ Below w.heap.size w w':=by
 obtain ⟨s,x,y⟩:=d
 go_enter Tryd.func63, Tryd.ntmps63
 go_wp2
 all_goals go_ret
 all_goals refine ⟨ret_bool ?_,below_al (Below.refl _ _) _⟩
 all_goals rw [Bool.eq_iff_iff]
 all_goals simp [deedB,deedP,inB,putA,takeA,endA,lookA] at *
 all_goals grind
set_option maxHeartbeats 1000000 in
theorem spec_l1Valid (lo hi n c lo' hi' n' c' : Nat) (A A' : Option Addr) (xs : List Int) (ds : List DeedD) (w : World) (h : Slc w lo hi 1 A n c (ints xs)) (h' : Slc w lo' hi' 3 A' n' c' (deeds ds)) (hn : n <= 1048576) (hn' : n' <= 1048576) :
  Calls Tryd.prog 56 #[.slice A n c,.slice A' n' c'] w λ e w' => e = .returned (.bool (deedsB xs ds)) /\ Below w.heap.size w w':=by
 have hl:=Lib.hid h.length
 have hl':=Lib.hid h'.deedLen
 go_enter Tryd.func56, Tryd.ntmps56
 go_wp2
 go_loopw [5] (λ i wr => ∃ k : Nat,k <= n' /\ i = .int .i64 k /\ Below w.heap.size w wr /\ ∀ j,j < k -> ∀ b,ds[j]? = some b -> deedB xs.length b = true) (λ i _ => n' - (intOf i).toNat)
 case atStart => exact ⟨0,Nat.zero_le _,rfl,Below.refl _ _,λ j hj => absurd hj (by omega)⟩
 case round =>
  obtain ⟨k,hk,rfl,B,hcs⟩:=hrel
  have HC:=Lib.hid hcs
  clear hcs
  by_cases hlt : k < n'
  ·obtain ⟨b,off,d,hA,_,_,h3,hxk,hv0,hv1,hv2⟩:=(h'.below B).deedAt hlt
   subst hA
   have HX:=Lib.hid hxk
   clear hxk h h'
   obtain ⟨t,ht⟩ : ∃ t,t = deedB n d:=⟨_,rfl⟩
   have HT:=Lib.hid ht
   clear ht
   go_wp2_with fail
   refine (spec_l1Deed d n _).mono ?_
   rintro e w1 ⟨rfl,b1⟩
   have B1:=below_step B b1
   rw [<- HT.out]
   clear hv0 hv1 hv2 h3 b1 B
   cases t
   ·go_wp2
    go_ret
    exact ⟨ret_bool (by symm; unfold deedsB; rw [allF_not HX.out (by rw [hl.out]; exact HT.out.symm)]; simp),B1⟩
   ·go_wp2
    go_roundw
    case rel => exact ⟨k + 1,by omega,by go_num,B1,allF_snoc HC.out HX.out (by rw [hl.out]; exact HT.out.symm)⟩
    case measure => simp [intOf]; omega
  ·have e : n' = k:=by omega
   subst e
   have HA:=Lib.hid (allF_of (p:=deedB xs.length) HC.out (by rw [hl'.out]; exact Nat.le_refl _))
   have hb:=h.below B
   clear h h'
   obtain ⟨t,ht⟩ : ∃ t,t = roomsB xs:=⟨_,rfl⟩
   have HT:=Lib.hid ht
   clear ht
   go_wp2_with fail
   refine (spec_RoomsValid _ _ _ _ _ _ _ hb hn).mono ?_
   rintro e w' ⟨rfl,rfl⟩
   rw [<- HT.out]
   clear hb
   cases t
   ·go_wp2
    go_ret
    exact ⟨ret_bool (by symm; unfold deedsB; rw [<- HT.out]; simp),B⟩
   ·by_cases h60 : n' <= 60
    ·go_wp2
     go_ret
     exact ⟨ret_bool (by symm; unfold deedsB; rw [<- HT.out,HA.out,hl'.out]; simp [h60]; omega),B⟩
    ·go_wp2
     go_ret
     exact ⟨ret_bool (by symm; unfold deedsB; rw [hl'.out]; simp [h60]; omega),B⟩
set_option maxHeartbeats 1000000 in
theorem impl_deedsValid (lo hi n c lo' hi' n' c' : Nat) (A A' : Option Addr) (xs : List Int) (ds : List DeedD) (w : World) (h : Slc w lo hi 1 A n c (ints xs)) (h' : Slc w lo' hi' 3 A' n' c' (deeds ds)) (hn : n <= 1048576) (hn' : n' <= 1048576) :
  Calls Tryd.prog 38 #[.slice A n c,.slice A' n' c'] w λ e w' => e = .returned (.bool (deedsB xs ds)) /\ Below w.heap.size w w':=by
 have hl:=Lib.hid h.length
 have hl':=Lib.hid h'.deedLen
 obtain ⟨t,ht⟩ : ∃ t,t = roomsB xs:=⟨_,rfl⟩
 have HT:=Lib.hid ht
 clear ht
 go_enter Tryd.func38, Tryd.ntmps38
 go_wp2_with fail
 refine (impl_RoomsValid _ _ _ _ _ _ _ h hn).mono ?_
 rintro e w ⟨rfl,rfl⟩
 rw [<- HT.out]
 cases t
 ·clear h h'
  go_wp2
  go_ret
  exact ⟨ret_bool (by symm; unfold deedsB; rw [<- HT.out]; simp),Below.refl _ _⟩
 ·by_cases h60 : n' <= 60
  ·have hr6 : 1 <= n /\ n <= 6:=by
    have:=HT.out.symm
    unfold roomsB at this
    simp only [Bool.and_eq_true,decide_eq_true_eq] at this
    rw [hl.out] at this; exact this.1
   have g1:=hr6.1
   have g2:=hr6.2
   clear hr6 h
   go_wp2
   go_loopw [17] (λ i wr => ∃ k : Nat,k <= n' /\ i = .int .i64 k /\ Below w.heap.size w wr /\ ∀ j,j < k -> ∀ b,ds[j]? = some b -> deedB xs.length b = true) (λ i _ => n' - (intOf i).toNat)
   case atStart => exact ⟨0,Nat.zero_le _,rfl,Below.refl _ _,λ j hj => absurd hj (by omega)⟩
   case round =>
    obtain ⟨k,hk,rfl,B,hcs⟩:=hrel
    have HC:=Lib.hid hcs
    clear hcs
    by_cases hlt : k < n'
    ·obtain ⟨b,off,d,hA,_,_,h3,hxk,hv0,hv1,hv2⟩:=(h'.below B).deedAt hlt
     subst hA
     have HX:=Lib.hid hxk
     clear hxk h'
     obtain ⟨t,ht⟩ : ∃ t,t = deedB n d:=⟨_,rfl⟩
     have HD:=Lib.hid ht
     have hin : inB n 1 6 = true:=by simp [inB]; omega
     have HIN:=Lib.hid hin
     clear ht hin
     go_wp2_with fail
     refine (impl_DeedValid d n _).mono ?_
     rintro e w1 ⟨rfl,b1⟩
     have B1:=below_step (below_al B _) b1
     rw [<- HD.out,HIN.out,Bool.true_and]
     clear hv0 hv1 hv2 h3 b1 B
     cases t
     ·go_wp2
      go_ret
      exact ⟨ret_bool (by symm; unfold deedsB; rw [allF_not HX.out (by rw [hl.out]; exact HD.out.symm)]; simp),B1⟩
     ·go_wp2
      go_roundw
      case rel => exact ⟨k + 1,by omega,by go_num,B1,allF_snoc HC.out HX.out (by rw [hl.out]; exact HD.out.symm)⟩
      case measure => simp [intOf]; omega
    ·have e : n' = k:=by omega
     subst e
     have HA:=Lib.hid (allF_of (p:=deedB xs.length) HC.out (by rw [hl'.out]; exact Nat.le_refl _))
     clear h'
     go_wp2
     go_ret
     exact ⟨ret_bool (by symm; unfold deedsB; rw [<- HT.out,HA.out,hl'.out]; simp [h60]),B⟩
  ·clear h h'
   go_wp2
   go_ret
   exact ⟨ret_bool (by symm; unfold deedsB; rw [hl'.out]; simp [h60]),Below.refl _ _⟩
end Go.Proofs.YtkfafknliihabaaDoor
namespace Go.Proofs.YtkfafknliihabaaDoor
open Go.RowKit
def entB (lines : Int) (d : DeedD) : Bool:=(inB lines 1 6 && deedB lines d) && (d.act.toList == putA || d.act.toList == takeA)
def tableB (ts : List DeedD) (lines : Int) : Bool:=ts.all (entB lines) && inB lines 1 6 && inB ts.length 1 8
def choiceB (rooms : List Int) (ds ts : List DeedD) : Bool:=deedsB rooms ds && tableB ts rooms.length
theorem ent_false {lines : Int} {d : DeedD} (h : (inB lines 1 6 && deedB lines d) = false) : entB lines d = false:=by unfold entB; rw [h]; rfl
theorem ent_put {lines : Int} {d : DeedD} (h : (inB lines 1 6 && deedB lines d) = true) (h2 : (d.act.toList == putA) = true) : entB lines d = true:=by unfold entB; rw [h,h2]; rfl
theorem ent_take {lines : Int} {d : DeedD} (h : (inB lines 1 6 && deedB lines d) = true) (h2 : (d.act.toList == takeA) = true) : entB lines d = true:=by unfold entB; rw [h,h2]; simp
theorem ent_not {lines : Int} {d : DeedD} (h2 : (d.act.toList == putA) = false) (h3 : (d.act.toList == takeA) = false) : entB lines d = false:=by unfold entB; rw [h2,h3]; simp
theorem table_not {lines : Int} {ts : List DeedD} (h : ts.all (entB lines) = false) : tableB ts lines = false:=by unfold tableB; rw [h]; rfl
theorem table_all {lines : Int} {ts : List DeedD} (h : ts.all (entB lines) = true) : tableB ts lines = (inB lines 1 6 && inB ts.length 1 8):=by unfold tableB; rw [h]; rfl
theorem spec_DeedValid (d : DeedD) (lines : Int) (w : World) :
  Calls Tryd.prog 91 #[.agg #[.string d.act,.int .i64 d.a,.int .i64 d.b],.int .i64 lines] w λ e w' => e = .returned (.bool (inB lines 1 6 && deedB lines d)) /\ Below w.heap.size w w':=by
 obtain ⟨t,ht⟩ : ∃ t,t = inB lines 1 6:=⟨_,rfl⟩
 have HT:=Lib.hid ht
 rw [<- ht]
 clear ht
 obtain ⟨s,x,y⟩:=d
 cases t
 ·go_enter Tryd.func91, Tryd.ntmps91
  go_wp2_with (first | (go_at_call 35; refine (l1In_any _ _ _ _).mono ?_; rintro e w' ⟨rfl,rfl⟩; rw [<- HT.out]) | (go_at_call 89; refine (spec_l1Deed ⟨s,x,y⟩ _ _).mono ?_; rintro e w1 ⟨rfl,b1⟩))
  go_ret
  exact ⟨rfl,below_al (Below.refl _ _) _⟩
 ·go_enter Tryd.func91, Tryd.ntmps91
  go_wp2_with (first | (go_at_call 35; refine (l1In_any _ _ _ _).mono ?_; rintro e w' ⟨rfl,rfl⟩; rw [<- HT.out]) | (go_at_call 89; refine (spec_l1Deed ⟨s,x,y⟩ _ _).mono ?_; rintro e w1 ⟨rfl,b1⟩))
  go_ret
  exact ⟨rfl,below_step (below_al (Below.refl _ _) _) b1⟩
set_option maxHeartbeats 2000000 in
theorem spec_TableValid (lo hi n c : Nat) (A : Option Addr) (ts : List DeedD) (lines : Int) (w : World) (h : Slc w lo hi 3 A n c (deeds ts)) (hn : n <= 1048576) :
  Calls Tryd.prog 57 #[.slice A n c,.int .i64 lines] w λ e w' => e = .returned (.bool (tableB ts lines)) /\ Below w.heap.size w w':=by
 have hl:=Lib.hid h.deedLen
 go_enter Tryd.func57, Tryd.ntmps57
 go_wp2
 go_loopw [5] (λ i wr => ∃ k : Nat,k <= n /\ i = .int .i64 k /\ Below w.heap.size w wr /\ ∀ j,j < k -> ∀ b,ts[j]? = some b -> entB lines b = true) (λ i _ => n - (intOf i).toNat)
 case atStart => exact ⟨0,Nat.zero_le _,rfl,Below.refl _ _,λ j hj => absurd hj (by omega)⟩
 case round =>
  obtain ⟨k,hk,rfl,B,hcs⟩:=hrel
  have HC:=Lib.hid hcs
  clear hcs
  by_cases hlt : k < n
  ·obtain ⟨b,off,d,hA,_,_,h3,hxk,hv0,hv1,hv2⟩:=(h.below B).deedAt hlt
   subst hA
   have HX:=Lib.hid hxk
   have i0' : (0 : Int) <= (k : Int):=by omega
   have i1 : (k : Int) < (n : Int):=by omega
   clear hxk h
   obtain ⟨t,ht⟩ : ∃ t,t = (inB lines 1 6 && deedB lines d):=⟨_,rfl⟩
   have HT:=Lib.hid ht
   clear ht
   cases t
   ·go_wp2_with (go_at_call 91; refine (spec_DeedValid d lines _).mono ?_; rintro e w1 ⟨rfl,b1⟩; rw [<- HT.out])
    go_ret
    exact ⟨ret_bool (table_not (allF_not HX.out (ent_false HT.out.symm))).symm,below_step B b1⟩
   ·by_cases h1 : (d.act.toList == putA) = true
    ·have H1:=Lib.hid h1
     have h1' : (d.act.toList == [112,117,116]) = true:=h1
     clear h1
     go_wp2_with (go_at_call 91; refine (spec_DeedValid d lines _).mono ?_; rintro e w1 ⟨rfl,b1⟩; rw [<- HT.out]; have hv0:=(World.cell?_of_block (b1.block _ h3)).trans hv0)
     go_roundw
     case rel => exact ⟨k + 1,by omega,by go_num,below_step B b1,allF_snoc HC.out HX.out (ent_put HT.out.symm H1.out)⟩
     case measure => simp [intOf]; omega
    ·have h1' : (d.act.toList == [112,117,116]) = false:=by simpa [putA] using h1
     by_cases h2 : (d.act.toList == takeA) = true
     ·have H2:=Lib.hid h2
      have h2' : (d.act.toList == [116,97,107,101]) = true:=h2
      clear h1 h2
      go_wp2_with (go_at_call 91; refine (spec_DeedValid d lines _).mono ?_; rintro e w1 ⟨rfl,b1⟩; rw [<- HT.out]; have hv0:=(World.cell?_of_block (b1.block _ h3)).trans hv0)
      go_roundw
      case rel => exact ⟨k + 1,by omega,by go_num,below_step B b1,allF_snoc HC.out HX.out (ent_take HT.out.symm H2.out)⟩
      case measure => simp [intOf]; omega
     ·have h2' : (d.act.toList == [116,97,107,101]) = false:=by simpa [takeA] using h2
      have H12:=Lib.hid (And.intro h1' h2')
      clear h1 h2
      go_wp2_with (go_at_call 91; refine (spec_DeedValid d lines _).mono ?_; rintro e w1 ⟨rfl,b1⟩; rw [<- HT.out]; have hv0:=(World.cell?_of_block (b1.block _ h3)).trans hv0)
      go_ret
      exact ⟨ret_bool (table_not (allF_not HX.out (ent_not H12.out.1 H12.out.2))).symm,below_step B b1⟩
  ·have e : k = n:=by omega
   subst e
   have HA:=Lib.hid (allF_of (p:=entB lines) HC.out (by rw [hl.out]; exact Nat.le_refl _))
   clear h
   obtain ⟨t,ht⟩ : ∃ t,t = inB lines 1 6:=⟨_,rfl⟩
   have HT:=Lib.hid ht
   clear ht
   cases t
   ·go_wp2_with (go_at_call 35; refine (l1In_any lines 1 6 _).mono ?_; rintro e w' ⟨rfl,rfl⟩; rw [<- HT.out])
    go_ret
    exact ⟨ret_bool (by rw [table_all HA.out,<- HT.out]; rfl),B⟩
   ·go_wp2_with (go_at_call 35; refine (l1In_any _ _ _ _).mono ?_; rintro e w' ⟨rfl,rfl⟩; try rw [<- HT.out])
    go_ret
    have hx : tableB ts lines = inB (k : Int) 1 8:=by
     rw [table_all HA.out,<- HT.out,Bool.true_and,hl.out]
    exact ⟨ret_bool hx.symm,B⟩
set_option maxHeartbeats 2000000 in
theorem impl_TableValid (lo hi n c : Nat) (A : Option Addr) (ts : List DeedD) (lines : Int) (w : World) (h : Slc w lo hi 3 A n c (deeds ts)) (hn : n <= 1048576) :
  Calls Tryd.prog 65 #[.slice A n c,.int .i64 lines] w λ e w' => e = .returned (.bool (tableB ts lines)) /\ Below w.heap.size w w':=by
 have hl:=Lib.hid h.deedLen
 by_cases hin : 1 <= lines /\ lines <= 6 /\ 1 <= n /\ n <= 8
 ·obtain ⟨g1,g2,g3,g4⟩:=hin
  have HG:=Lib.hid (And.intro g1 (And.intro g2 (And.intro g3 g4)))
  go_enter Tryd.func65, Tryd.ntmps65
  go_wp2
  go_loopw [25] (λ i wr => ∃ k : Nat,k <= n /\ i = .int .i64 k /\ Below w.heap.size w wr /\ ∀ j,j < k -> ∀ b,ts[j]? = some b -> entB lines b = true) (λ i _ => n - (intOf i).toNat)
  case atStart => exact ⟨0,Nat.zero_le _,rfl,Below.refl _ _,λ j hj => absurd hj (by omega)⟩
  case round =>
   obtain ⟨k,hk,rfl,B,hcs⟩:=hrel
   have HC:=Lib.hid hcs
   clear hcs
   by_cases hlt : k < n
   ·obtain ⟨b,off,d,hA,_,_,h3,hxk,hv0,hv1,hv2⟩:=(h.below B).deedAt hlt
    subst hA
    have HX:=Lib.hid hxk
    have i0' : (0 : Int) <= (k : Int):=by omega
    have i1 : (k : Int) < (n : Int):=by omega
    clear hxk h
    obtain ⟨t,ht⟩ : ∃ t,t = (inB lines 1 6 && deedB lines d):=⟨_,rfl⟩
    have HT:=Lib.hid ht
    clear ht
    obtain ⟨s,x,y⟩:=d
    by_cases h1 : (s.toList == putA) = true
    ·have H1:=Lib.hid h1
     have h1' : (s.toList == [112,117,116]) = true:=h1
     clear h1
     cases t
     ·go_wp2_with (go_at_call 63; refine (impl_DeedValid ⟨s,x,y⟩ lines _).mono ?_; rintro e w1 ⟨rfl,b1⟩; rw [<- HT.out])
      go_ret
      exact ⟨ret_bool (table_not (allF_not HX.out (ent_false HT.out.symm))).symm,below_step (below_al B _) b1⟩
     ·go_wp2_with (go_at_call 63; refine (impl_DeedValid ⟨s,x,y⟩ lines _).mono ?_; rintro e w1 ⟨rfl,b1⟩; rw [<- HT.out])
      go_roundw
      case rel => exact ⟨k + 1,by omega,by go_num,below_step (below_al B _) b1,allF_snoc HC.out HX.out (ent_put HT.out.symm H1.out)⟩
      case measure => simp [intOf]; omega
    ·have h1' : (s.toList == [112,117,116]) = false:=by simpa [putA] using h1
     by_cases h2 : (s.toList == takeA) = true
     ·have H2:=Lib.hid h2
      have h2' : (s.toList == [116,97,107,101]) = true:=h2
      clear h1 h2
      cases t
      ·go_wp2_with (go_at_call 63; refine (impl_DeedValid ⟨s,x,y⟩ lines _).mono ?_; rintro e w1 ⟨rfl,b1⟩; rw [<- HT.out])
       go_ret
       exact ⟨ret_bool (table_not (allF_not HX.out (ent_false HT.out.symm))).symm,below_step (below_al B _) b1⟩
      ·go_wp2_with (go_at_call 63; refine (impl_DeedValid ⟨s,x,y⟩ lines _).mono ?_; rintro e w1 ⟨rfl,b1⟩; rw [<- HT.out])
       go_roundw
       case rel => exact ⟨k + 1,by omega,by go_num,below_step (below_al B _) b1,allF_snoc HC.out HX.out (ent_take HT.out.symm H2.out)⟩
       case measure => simp [intOf]; omega
     ·have h2' : (s.toList == [116,97,107,101]) = false:=by simpa [takeA] using h2
      have H12:=Lib.hid (And.intro h1' h2')
      clear h1 h2
      go_wp2
      go_ret
      exact ⟨ret_bool (table_not (allF_not HX.out (ent_not H12.out.1 H12.out.2))).symm,below_al B _⟩
   ·have e : k = n:=by omega
    subst e
    have HA:=Lib.hid (allF_of (p:=entB lines) HC.out (by rw [hl.out]; exact Nat.le_refl _))
    clear h
    go_wp2
    go_ret
    refine ⟨ret_bool ?_,B⟩
    rw [table_all HA.out,hl.out]
    have:=HG.out
    simp [inB]; omega
 ·have hF : tableB ts lines = false:=by
   unfold tableB
   rw [hl.out]
   have : (inB lines 1 6 && inB (n : Int) 1 8) = false:=by
    rw [Bool.eq_false_iff]; intro hh; apply hin
    simp [inB] at hh; omega
   rw [Bool.and_assoc,this,Bool.and_false]
  rw [hF]
  clear hF h
  have hx : lines < 1 \/ (1 <= lines /\ 6 < lines) \/ (1 <= lines /\ lines <= 6 /\ n < 1) \/ (1 <= lines /\ lines <= 6 /\ 1 <= n /\ 8 < n):=by omega
  clear hin
  rcases hx with hx | ⟨hx,hy⟩ | ⟨hx,hy,hz⟩ | ⟨hx,hy,hz,hq⟩
  all_goals
   go_enter Tryd.func65, Tryd.ntmps65
   go_wp2
   go_ret
   exact ⟨rfl,Below.refl _ _⟩
end Go.Proofs.YtkfafknliihabaaDoor
namespace Go.Proofs.YtkfafknliihabaaDoor
open Go.RowKit
set_option maxHeartbeats 1000000 in
theorem spec_l5Valid (lo hi n c lo2 hi2 m c2 lo3 hi3 q c3 : Nat) (A A2 A3 : Option Addr) (rooms : List Int) (ds ts : List DeedD) (w : World) (h : Slc w lo hi 1 A n c (ints rooms)) (h2 : Slc w lo2 hi2 3 A2 m c2 (deeds ds)) (h3 : Slc w lo3 hi3 3 A3 q c3 (deeds ts)) (hn : n <= 1048576) (hm : m <= 1048576) (hq : q <= 1048576) :
  Calls Tryd.prog 34 #[.slice A n c,.slice A2 m c2,.slice A3 q c3] w λ e w' => e = .returned (.bool (choiceB rooms ds ts)) /\ Below w.heap.size w w':=by
 have hl:=Lib.hid h.length
 obtain ⟨t,ht⟩ : ∃ t,t = deedsB rooms ds:=⟨_,rfl⟩
 have HT:=Lib.hid ht
 clear ht
 cases t
 ·go_enter Tryd.func34, Tryd.ntmps34
  go_wp2_with (go_at_call 56; refine (spec_l1Valid _ _ _ _ _ _ _ _ _ _ rooms ds _ h h2 hn hm).mono ?_; rintro e w1 ⟨rfl,b1⟩; rw [<- HT.out])
  go_ret
  exact ⟨ret_bool (by unfold choiceB; rw [<- HT.out]; rfl),b1⟩
 ·go_enter Tryd.func34, Tryd.ntmps34
  go_wp2_with (first | (go_at_call 56; refine (spec_l1Valid _ _ _ _ _ _ _ _ _ _ rooms ds _ h h2 hn hm).mono ?_; rintro e w1 ⟨rfl,b1⟩; rw [<- HT.out]) | (go_at_call 57; refine (spec_TableValid _ _ _ _ _ ts n _ (h3.below b1) hq).mono ?_; rintro e w2 ⟨rfl,b2⟩))
  go_ret
  exact ⟨ret_bool (by unfold choiceB; rw [<- HT.out,hl.out]; rfl),below_step b1 b2⟩
set_option maxHeartbeats 1000000 in
theorem impl_choiceValid (lo hi n c lo2 hi2 m c2 lo3 hi3 q c3 : Nat) (A A2 A3 : Option Addr) (rooms : List Int) (ds ts : List DeedD) (w : World) (h : Slc w lo hi 1 A n c (ints rooms)) (h2 : Slc w lo2 hi2 3 A2 m c2 (deeds ds)) (h3 : Slc w lo3 hi3 3 A3 q c3 (deeds ts)) (hn : n <= 1048576) (hm : m <= 1048576) (hq : q <= 1048576) :
  Calls Tryd.prog 41 #[.slice A n c,.slice A2 m c2,.slice A3 q c3] w λ e w' => e = .returned (.bool (choiceB rooms ds ts)) /\ Below w.heap.size w w':=by
 have hl:=Lib.hid h.length
 obtain ⟨t,ht⟩ : ∃ t,t = deedsB rooms ds:=⟨_,rfl⟩
 have HT:=Lib.hid ht
 clear ht
 cases t
 ·go_enter Tryd.func41, Tryd.ntmps41
  go_wp2_with (go_at_call 38; refine (impl_deedsValid _ _ _ _ _ _ _ _ _ _ rooms ds _ h h2 hn hm).mono ?_; rintro e w1 ⟨rfl,b1⟩; rw [<- HT.out])
  go_ret
  exact ⟨ret_bool (by unfold choiceB; rw [<- HT.out]; rfl),b1⟩
 ·go_enter Tryd.func41, Tryd.ntmps41
  go_wp2_with (first | (go_at_call 38; refine (impl_deedsValid _ _ _ _ _ _ _ _ _ _ rooms ds _ h h2 hn hm).mono ?_; rintro e w1 ⟨rfl,b1⟩; rw [<- HT.out]) | (go_at_call 65; refine (impl_TableValid _ _ _ _ _ ts n _ (h3.below b1) hq).mono ?_; rintro e w2 ⟨rfl,b2⟩))
  go_ret
  exact ⟨ret_bool (by unfold choiceB; rw [<- HT.out,hl.out]; rfl),below_step b1 b2⟩
end Go.Proofs.YtkfafknliihabaaDoor
namespace Go.Proofs.YtkfafknliihabaaDoor
open Go.RowKit Go.Conc
structure NewSw (w wr : World) (rooms : List Int) (k gl cl : Nat) (cs : List Nat) : Prop where
 st : wr.heap[w.heap.size + 3]? = some (.cells #[.slice (some ⟨gl,0,none⟩) (k + 1) cl,.map (some (w.heap.size + 1)),.map (some (w.heap.size + 2))] 112)
 lines : wr.ownsRow w.heap.size 113 1 (.slice (some ⟨gl,0,none⟩) (k + 1) cl) (k + 1) (.chan none :: cs.map λ c => .chan (some c))
 len : cs.length = k
 mc : wr.heap[w.heap.size + 1]? = some (.map #[] 0)
 mt : wr.heap[w.heap.size + 2]? = some (.map #[] 0)
 chans : ∀ (i c : Nat) (r : Int),cs[i]? = some c -> rooms[i]? = some r -> w.heap.size <= c /\ wr.heap[c]? = some (.chan r.toNat #[] false 0 0 false)
 fresh : ∀ c ∈ cs,c < wr.heap.size
 nodup : cs.Nodup
 B : Below w.heap.size w wr
theorem NewSw.ok {w wr : World} {rooms : List Int} {k gl cl : Nat} {cs : List Nat} (h : NewSw w wr rooms k gl cl cs) (hk : rooms.length = k) (hr : ∀ r ∈ rooms,0 <= r) : SwOk wr w.heap.size ⟨w.heap.size + 3,gl,cl,w.heap.size + 1,w.heap.size + 2,cs⟩ (openF rooms):=by
 have hl:=h.len
 have go : ∀ (i c : Nat) (l : Ln),cs[i]? = some c -> (openF rooms)[i + 1]? = some l -> ∃ r,rooms[i]? = some r /\ l = ⟨r,[],false,[]⟩:=by
  intro i c l hc hl
  unfold openF at hl
  rw [List.getElem?_cons_succ,List.getElem?_map] at hl
  cases hq : rooms[i]? with
  | none => rw [hq] at hl; cases hl
  | some r => rw [hq] at hl; injection hl with hl; exact ⟨r,rfl,hl.symm⟩
 refine ⟨by rw [hl]; exact h.st,by simp,by rw [hl]; exact h.lines,by rw [openF_len,hk]; exact congrArg (· + 1) hl.symm,rfl,?_,h.nodup,⟨by simp,[],⟨#[],0,h.mc,by simp [EsOf]⟩,?_⟩,⟨by simp,[],⟨#[],0,h.mt,by simp [EsOf]⟩,?_,?_⟩,by simp⟩
 ·intro i c l hc hl
  obtain ⟨r,hr1,rfl⟩:=go i c l hc hl
  obtain ⟨q1,q2⟩:=h.chans i c r hc hr1
  exact ⟨q1,hr r (List.mem_of_getElem? hr1),0,0,q2⟩
 ·intro i c l hc hl
  obtain ⟨r,hr1,rfl⟩:=go i c l hc hl
  rfl
 ·intro i c l hc hl
  obtain ⟨r,hr1,rfl⟩:=go i c l hc hl
  exact .inl ⟨rfl,rfl⟩
 ·intro c c' b _ _ hb
  simp [lookC,takenBlk] at hb
theorem setCell_heap {w : World} {b : Nat} {v : Value} {c : Nat} (h : c ≠ b) : (w.setCell ⟨b,0,none⟩ v).heap[c]? = w.heap[c]?:=by
 simp only [World.setCell]
 rw [Array.getElem?_modify,if_neg (λ e => h e.symm)]
theorem setCell_self {w : World} {b : Nat} {v x y z : Value} {T : TypeId} (h : w.heap[b]? = some (.cells #[x,y,z] T)) : (w.setCell ⟨b,0,none⟩ v).heap[b]? = some (.cells #[v,y,z] T):=by
 simp only [World.setCell]
 rw [Array.getElem?_modify,if_pos rfl,h]; rfl
theorem NewSw.step {w wr w3 : World} {rooms : List Int} {k gl cl g2 c2n : Nat} {cs : List Nat} {x : Int} (St : NewSw w wr rooms k gl cl cs) (hx : rooms[k]? = some x)
  (hown : w3.ownsRow w.heap.size 113 1 (.slice (some ⟨g2,0,none⟩) (k + 1 + 1) c2n) (k + 1 + 1) ((.chan none :: cs.map λ c => .chan (some c)) ++ [.chan (some wr.heap.size)]))
  (hgr : World.grownBy (((wr.alloc (.chan x.toNat #[] false 0 0 false)).alloc (.cells #[.chan (some wr.heap.size)] 113)).drew) w3 (some gl)) (hat : gl = g2 \/ g2 = wr.heap.size + 2) :
  NewSw w (w3.setCell ⟨w.heap.size + 3,0,none⟩ (.slice (some ⟨g2,0,none⟩) (k + 1 + 1) c2n)) rooms (k + 1) g2 c2n (cs ++ [wr.heap.size]):=by
 obtain ⟨hg0,arr,kgl,_⟩:=row_blk St.lines
 have zgl:=blk_lt kgl
 have zst:=blk_lt St.st
 have nst : w.heap.size + 3 ≠ gl:=blk_ne St.st kgl (by simp)
 have nmc : w.heap.size + 1 ≠ gl:=blk_ne St.mc kgl (by simp)
 have nmt : w.heap.size + 2 ≠ gl:=blk_ne St.mt kgl (by simp)
 have kk : ∀ b,b < wr.heap.size -> b ≠ gl -> w3.heap[b]? = wr.heap[b]?:=λ b hb hne => by
  rw [hgr.block b (by simp; omega) (by simp; exact hne)]
  exact (Below.heap_alloc _ _ _ (by simp; omega)).trans (Below.heap_alloc _ _ _ hb)
 have kn : w3.heap[wr.heap.size]? = some (.chan x.toNat #[] false 0 0 false):=by
  rw [hgr.block wr.heap.size (by simp; omega) (by simp; omega)]
  exact blk_alloc (heap_alloc_new _ _) _
 have z3 : wr.heap.size + 2 <= w3.heap.size:=by have:=hgr.size; simpa using this
 have hs : ∀ b,b ≠ w.heap.size + 3 -> (w3.setCell ⟨w.heap.size + 3,0,none⟩ (.slice (some ⟨g2,0,none⟩) (k + 1 + 1) c2n)).heap[b]? = w3.heap[b]?:=λ b hb => setCell_heap hb
 have hz : (w3.setCell ⟨w.heap.size + 3,0,none⟩ (.slice (some ⟨g2,0,none⟩) (k + 1 + 1) c2n)).heap.size = w3.heap.size:=by simp
 have hst3:=(kk _ zst nst).trans St.st
 have nch : ∀ c ∈ cs,c ≠ gl /\ c ≠ w.heap.size + 3 /\ c < wr.heap.size -> True:=λ _ _ _ => trivial
 refine ⟨setCell_self hst3,?_,by simp [St.len],?_,?_,?_,?_,?_,?_⟩
 ·have : (Value.chan none :: (cs ++ [wr.heap.size]).map λ c => Value.chan (some c)) = (.chan none :: cs.map λ c => .chan (some c)) ++ [.chan (some wr.heap.size)]:=by simp
  rw [this]
  obtain ⟨_,arr2,k2,_⟩:=row_blk hown
  exact row_at hown (hs g2 (λ e => by rw [e,hst3] at k2; injection k2 with k2; injection k2 with _ k2; cases k2))
 ·rw [hs _ (by omega),kk _ (by omega) nmc]; exact St.mc
 ·rw [hs _ (by omega),kk _ (by omega) nmt]; exact St.mt
 ·intro i c r hc hr
  rcases Nat.lt_or_ge i k with hik | hik
  ·rw [List.getElem?_append_left (by rw [St.len]; exact hik)] at hc
   obtain ⟨q1,q2⟩:=St.chans i c r hc hr
   refine ⟨q1,?_⟩
   rw [hs _ (blk_ne q2 St.st (by simp)),kk _ (blk_lt q2) (blk_ne q2 kgl (by simp))]; exact q2
  ·rw [List.getElem?_append_right (by rw [St.len]; exact hik),St.len] at hc
   have : i = k:=by
    have:=(List.getElem?_eq_some_iff.1 hc).1
    simp at this; omega
   subst this
   rw [Nat.sub_self] at hc
   simp at hc; subst hc
   rw [hx] at hr; injection hr with hr; subst hr
   exact ⟨St.B.size,by rw [hs _ (by omega)]; exact kn⟩
 ·intro c hc
  rw [hz]
  rcases List.mem_append.1 hc with hc | hc
  ·have:=St.fresh c hc; omega
  ·rw [List.mem_singleton] at hc; omega
 ·refine List.nodup_append.2 ⟨St.nodup,by simp,λ a ha b hb => ?_⟩
  rw [List.mem_singleton] at hb
  have:=St.fresh a ha
  omega
 ·have zB:=St.B.size
  refine St.B.trans ⟨?_,?_,?_,by rw [hz]; omega,λ b hb => ?_⟩
  ·exact hgr.os
  ·exact hgr.tape
  ·exact hgr.output
  ·rw [hs _ (by omega),kk _ (by omega) (by omega)]
theorem info_chan : (Tryd.prog.info? 113).map (λ i => (i.zero,i.size,i.bytes)) = some (some (.chan none),1,8):=by kernel_rfl
theorem make_chans (n : Nat) (hn : n <= 1048576) : ∃ cs : Array Value,cs.size = n + 1 /\ cs[0]? = some (.chan none) /\ ∀ w : World,(Instr.makeSlice 108 (.int .i64 1) (.int .i64 ((n : Int) + 1))).run Tryd.prog w = .ok (.slice (some ⟨w.heap.size,0,none⟩) 1 (n + 1)) (w.alloc (.cells cs 113)):=by
 obtain ⟨i,hi,hz,hs,hb⟩:=info_parts info_chan
 refine ⟨madeCells (Value.cells (.chan none)) ((n + 1) * 1),by rw [size_madeCells]; omega,?_,λ w => ?_⟩
 ·rw [Nat.mul_one,<- Array.getElem?_toList,show (Value.chan none).cells = #[.chan none] from rfl,toList_madeCells_one]; rfl
 ·have:=run_make (P:=Tryd.prog) w 108 113 i _ Tryd.underlying108 hi hz .i64 .i64 1 (n + 1) (by omega) (by omega) (by rw [hb]; omega) (by omega)
  rw [hs] at this
  exact this
theorem mk_chan (x : Int) (h0 : 0 <= x) (h8 : x <= 8) (w : World) : (Instr.makeChan 113 (.int .i64 x)).run Tryd.prog w = .ok (.chan (some w.heap.size)) (w.alloc (.chan x.toNat #[] false 0 0 false)):=by
 obtain ⟨i,hi,hz,hs,hb⟩:=info_parts info_int
 obtain ⟨n,rfl⟩:=Int.eq_ofNat_of_zero_le h0
 exact run_makeChan (P:=Tryd.prog) und_chan hi .i64 n (by omega) (by rw [hb]; omega)
set_option maxRecDepth 20000 in
set_option maxHeartbeats 4000000 in
theorem new_any {w : World} {rooms : List Int} {lo hi n c : Nat} {A : Option Addr} (h : Slc w lo hi 1 A n c (ints rooms)) (hr : roomsB rooms = true) :
  Calls Tryd.prog 39 #[.slice A n c] w λ e w' =>
   ∃ S,e = .returned (.pointer (some ⟨S.sp,0,none⟩)) /\ SwOk w' w.heap.size S (openF rooms) /\ S.cs.length = rooms.length /\ Below w.heap.size w w':=by
 have hln:=h.length
 obtain ⟨⟨hr1,hr6⟩,hrr⟩ : (1 <= rooms.length /\ rooms.length <= 6) /\ ∀ r ∈ rooms,0 <= r /\ r <= 8:=by
  unfold roomsB at hr
  simp only [Bool.and_eq_true,decide_eq_true_eq,List.all_eq_true] at hr
  exact ⟨hr.1,λ r h => by have:=hr.2 r h; simpa [roomB,inB] using this⟩
 obtain ⟨cs0,hcs0,hcz,hmk⟩:=make_chans n (by omega)
 have hmw:=hmk w
 have hmm:=@run_makeMap Tryd.prog
 have HC0:=Lib.hid (And.intro hcs0 hcz)
 have HR:=Lib.hid hrr
 have HL:=Lib.hid hln
 have hn6 : (n : Int) <= 6:=by omega
 obtain ⟨i0,hi0,hz0,hz1,hz2⟩:=info_parts info_chan
 have HI:=Lib.hid (And.intro hi0 (And.intro hz0 (And.intro hz1 hz2)))
 clear hcs0 hcz hrr hr hln hmk hi0 hz0 hz1 hz2 hr1 hr6
 go_enter Tryd.func39, Tryd.ntmps39
 go_wp2
 go_loopw [16] (λ i wr => ∃ (k gl cl : Nat) (cs : List Nat),k <= n /\ i = .int .i64 k /\ NewSw w wr rooms k gl cl cs) (λ i _ => n - (intOf i).toNat)
 case atStart =>
  refine ⟨0,w.heap.size,n + 1,[],Nat.zero_le _,rfl,?_⟩
  refine ⟨?_,?_,rfl,?_,?_,by simp,by simp,by simp,?_⟩
  ·exact heap_new' _ _ (by simp)
  ·exact ⟨rfl,.inr ⟨w.heap.size,n + 1,cs0,rfl,Nat.le_refl _,blk_alloc (blk_alloc (blk_alloc (heap_alloc_new _ _) _) _) _,by omega,by unfold maxLen; omega,by rw [HC0.out.1]; omega,by
    have:=HC0.out.2
    rw [<- Array.getElem?_toList] at this
    cases hq : cs0.toList with
    | nil => rw [hq] at this; cases this
    | cons x xs => rw [hq] at this; simp at this; subst this; rfl⟩⟩
  ·exact blk_alloc (blk_alloc (heap_new' _ _ (by simp)) _) _
  ·exact blk_alloc (heap_new' _ _ (by simp)) _
  ·exact below_al (below_al (below_al (below_al (Below.refl _ _) _) _) _) _
 case round =>
  obtain ⟨k,gl,cl,cs,hk,rfl,St⟩:=hrel
  by_cases hlt : k < n
  ·have h':=h.below St.B
   obtain ⟨b,off,x,hA,_,_,h3,hxk,hv0⟩:=h'.cellAt hlt
   subst hA
   obtain ⟨x0,x8⟩:=HR.out x (List.mem_of_getElem? hxk)
   have ec:=blk_cell St.st
   have hmc:=λ W => mk_chan x x0 x8 W
   have zw:=St.B.size
   have zst:=blk_lt St.st
   have i0' : (0 : Int) <= (k : Int):=by omega
   have i1 : (k : Int) < (n : Int):=by omega
   have HST:=Lib.hid (And.intro St (And.intro hxk x0))
   have hst1 : ((wr.alloc (.chan x.toNat #[] false 0 0 false)).alloc (.cells #[.chan (some wr.heap.size)] 113)).heap[w.heap.size + 3]? = _:=blk_alloc (blk_alloc St.st _) _
   have hgl : ¬ some (w.heap.size + 3) = (Value.slice (some ⟨gl,0,none⟩) (k + 1) cl).ownBlock:=by
    obtain ⟨_,arr,k2,_⟩:=row_blk St.lines
    simp only [Value.ownBlock]
    intro e; injection e with e
    exact blk_ne St.st k2 (by simp) e
   have ec1:=blk_cell (blk_alloc St.st (.chan x.toNat #[] false 0 0 false))
   have ec2:=blk_cell hst1
   have HS1:=Lib.hid (And.intro hst1 hgl)
   clear hgl
   obtain ⟨hi0,hz0,hz1,hz2⟩:=HI.out
   have HH:=Lib.hid hi0
   clear St h' hxk hst1 hi0
   go_upto_region 5 with fail
   go_region_law (first
    | (refine step_append_lies _ rfl (.tmp 24) (.tmp 27) 108 rfl w.heap.size 113 i0 (.chan none) 1 8 Tryd.underlying108 HH.out hz0 hz1 hz2 rfl (by decide) (.slice (some ⟨gl,0,none⟩) (k + 1) cl) (k + 1) (.chan none :: cs.map λ c => .chan (some c)) rfl ?c1 ⟨_,0,none⟩ 1 1 [.chan (some wr.heap.size)] rfl rfl ?c2 (by simp [Value.oneCell']) (by decide) ?c5 ?c6 ?c7 _ rfl ?_; (case c1 => exact row_below' HST.out.1.lines (by (repeat' (first | with_reducible assumption | with_reducible exact Below.refl _ _ | with_reducible apply below_al | with_reducible apply below_drew)))); (case c2 => exact World.news_of_block (cs:=#[.chan (some wr.heap.size)]) (by ((try with_reducible apply blk_drew); (first | with_reducible assumption | (with_reducible refine heap_new' _ _ ?_; simp) | (with_reducible refine blk_alloc ?_ _; first | with_reducible assumption | (with_reducible refine heap_new' _ _ ?_; simp)) | (with_reducible refine blk_alloc ?_ _; with_reducible refine blk_alloc ?_ _; first | with_reducible assumption | (with_reducible refine heap_new' _ _ ?_; simp)) | (with_reducible refine blk_alloc ?_ _; with_reducible refine blk_alloc ?_ _; with_reducible refine blk_alloc ?_ _; first | with_reducible assumption | (with_reducible refine heap_new' _ _ ?_; simp)))))); (case c5 => unfold maxLen; omega); (case c6 => omega); (case c7 => first | omega | (simp; omega)); intro g2 c2n w3 hown2 hgr2 hat2 hlt2; have HO2:=Lib.hid hown2; have HG2:=Lib.hid hgr2; have HAT:=Lib.hid hat2; have hst3:=(hgr2.block (w.heap.size + 3) (by first | (simp; done) | (simp; omega)) HS1.out.2).trans (by first | exact HS1.out.1 | exact blk_drew HS1.out.1); have ec3:=blk_cell hst3; have fc3:=blk_frozen' hst3; have HM3:=Lib.hid hst3; clear hown2 hgr2 hat2 hst3))
   all_goals
    go_wp2_with fail
    go_roundw
    case rel => exact ⟨k + 1,g2,c2n,cs ++ [wr.heap.size],by omega,by go_num,HST.out.1.step HST.out.2.1 HO2.out HG2.out (by have:=HAT.out; simpa [Value.ownBlock] using this)⟩
    case measure => simp [intOf]; omega
  ·have e : k = n:=by omega
   subst e
   go_wp2
   go_ret
   exact ⟨⟨_,gl,cl,_,_,cs⟩,rfl,St.ok HL.out (λ r hr => (HR.out r hr).1),by rw [HL.out]; exact St.len,St.B⟩
end Go.Proofs.YtkfafknliihabaaDoor
namespace Go.Proofs.YtkfafknliihabaaDoor
open Go.RowKit
def runLinesF (rooms : List Int) (ds : List DeedD) : List (List UInt8) × Bool:=if deedsB rooms ds then ((runF rooms ds).2,true) else ([],false)
end Go.Proofs.YtkfafknliihabaaDoor
namespace Go.Proofs.YtkfafknliihabaaDoor
open Go.RowKit Go.Conc
def TabW (w : World) : Prop:=Lib.TabIs Tryd.prog w "internal/strconv.uint64pow10" .u64 Lib.pow10Tab
theorem TabW.below {w w' : World} (h : TabW w) (hb : Below w.heap.size w w') : TabW w':=Lib.tabBelow_of_tabIs h w' hb
theorem Slc.old {w : World} {lo hi s n c : Nat} {A : Option Addr} {xs : List Value} (h : Slc w lo hi s A n c xs) : Slc w 0 w.heap.size s A n c xs:=
 ⟨h.len,h.le,h.cap,λ hn => by obtain ⟨b,off,e,_,_,h3,h4⟩:=h.at_ hn; exact ⟨b,off,e,Nat.zero_le _,h3,h3,h4⟩⟩
theorem OwnV.from {E s : Nat} {w : World} {lo hi n c : Nat} {A : Option Addr} {xs : List Value} {lo' : Nat} (h : OwnV E s w lo hi A n c xs) (hl : lo' <= lo) : OwnV E s w lo' hi A n c xs:=h.wide hl (Nat.le_refl _)
theorem rooms_of {rooms : List Int} {ds : List DeedD} (h : deedsB rooms ds = true) : roomsB rooms = true:=by
 unfold deedsB at h; simp only [Bool.and_eq_true] at h; exact h.1.1
theorem doAll_from {w1 w2 : World} {S : Sw} {rooms : List Int} {ds : List DeedD} (hsw : SwOk w2 w1.heap.size S (openF rooms)) (b2 : Below w1.heap.size w1 w2) (hl : S.cs.length = rooms.length) (hd : deedsB rooms ds = true) {lo2 hi2 m c2 : Nat} {A2 : Option Addr} (h2 : Slc w1 lo2 hi2 3 A2 m c2 (deeds ds)) (ht : TabW w1) :
  Calls Tryd.prog 40 #[.pointer (some ⟨S.sp,0,none⟩),.slice A2 m c2] w2 λ e w' =>
   ∃ A c,e = .returned (.slice A m c) /\ OwnV 9 1 w' w2.heap.size w'.heap.size A m c (txts (runF rooms ds).2) /\ SwOk w' w1.heap.size S (runF rooms ds).1 /\ Below w1.heap.size w1 w':=by
 refine (doAll_any hsw b2.size hl hd (h2.old.below b2) (Nat.le_refl _) (λ w' hb => ht.below (b2.trans hb))).mono ?_
 rintro e w' ⟨g,c,rfl,ho,hs,hb⟩
 obtain ⟨A',c',e',o⟩:=ownV_of_row ho (by decide)
 injection e' with e1 e2 e3
 subst e1 e3
 exact ⟨_,_,rfl,o,hs,b2.trans hb⟩
theorem new_from {lo hi n c : Nat} {A : Option Addr} {rooms : List Int} {ds : List DeedD} {w : World} (h : Slc w lo hi 1 A n c (ints rooms)) (hd : deedsB rooms ds = true) :
  Calls Tryd.prog 39 #[.slice A n c] w λ e w' => ∃ S : Sw,e = .returned (.pointer (some ⟨S.sp,0,none⟩)) /\ SwOk w' w.heap.size S (openF rooms) /\ S.cs.length = rooms.length /\ Below w.heap.size w w':=
 (new_any h (rooms_of hd)).mono (by rintro e w' ⟨S,rfl,a,b,cc⟩; exact ⟨S,rfl,a,b,cc⟩)
set_option maxHeartbeats 2000000 in
theorem impl_RunLines (lo hi n c lo2 hi2 m c2 : Nat) (A A2 : Option Addr) (rooms : List Int) (ds : List DeedD) (w : World) (h : Slc w lo hi 1 A n c (ints rooms)) (h2 : Slc w lo2 hi2 3 A2 m c2 (deeds ds)) (hn : n <= 1048576) (hm : m <= 1048576) (ht : TabW w) :
  Calls Tryd.prog 12 #[.slice A n c,.slice A2 m c2] w (NewVB 9 1 w (txts (runLinesF rooms ds).1) (runLinesF rooms ds).2):=by
 have HT:=Lib.hid ht
 clear ht
 cases hd : deedsB rooms ds with
 | false =>
  have hF : runLinesF rooms ds = ([],false):=by unfold runLinesF; rw [hd]; rfl
  rw [hF]
  go_enter Tryd.func12, Tryd.ntmps12
  go_wp2_with (go_at_call 38; refine (impl_deedsValid _ _ _ _ _ _ _ _ _ _ rooms ds _ h h2 hn hm).mono ?_; rintro e w1 ⟨rfl,b1⟩; rw [hd])
  go_ret2
  exact ⟨_,0,0,rfl,OwnV.nil _ _ _,b1⟩
 | true =>
  have hF : runLinesF rooms ds = ((runF rooms ds).2,true):=by unfold runLinesF; rw [hd]; rfl
  rw [hF]
  have HD:=Lib.hid hd
  go_enter Tryd.func12, Tryd.ntmps12
  go_wp2_with (first
   | (go_at_call 38; refine (impl_deedsValid _ _ _ _ _ _ _ _ _ _ rooms ds _ h h2 hn hm).mono ?_; rintro e w1 ⟨rfl,b1⟩; rw [HD.out]; have h1:=h.below b1; have h21:=h2.below b1; have HT1:=Lib.hid (HT.out.below b1))
   | (go_at_call 39; refine (new_any h1 (rooms_of HD.out)).mono ?_; rintro e w2 ⟨S,rfl,hsw,hln,b2⟩)
   | (go_at_call 40; refine (doAll_from hsw b2 hln HD.out h21 HT1.out).mono ?_; rintro e w3 ⟨A3,c3,rfl,o3,_,b3⟩))
  go_ret2
  have z1:=b1.size
  have z2:=b2.size
  have hmm:=(runF_len rooms ds).2
  refine ⟨_,m,c3,rfl,o3.from (by omega),b1.trans (b3.mono (by omega))⟩
end Go.Proofs.YtkfafknliihabaaDoor
namespace Go.Proofs.YtkfafknliihabaaDoor
open Go.RowKit Go.Conc
section
variable {P : Program} {k : TypeId} {d : ChanDir} {e0 : TypeId}
theorem run_findAsking_nil (hk : P.underlying k = some (.chan d e0)) (w : World) : ∀ (es : List MapEntry) (ps : List (Nat × Value)) (i : Nat),EsOf es ps -> (Instr.findAsking k (.chan none) es i).run P w = .ok none w
 | [],ps,i,h => rfl
 | e :: es,ps,i,h => by
  obtain ⟨p,qs,rfl,h1,h2,h3⟩:=h.cons_inv
  have ih:=run_findAsking_nil hk w es qs (i + 1) h3
  unfold Instr.findAsking
  simp only [Sem.run_bind,h1,run_equal_chan hk,Result.andThen_ok]
  have : ((none : Option Nat) == some p.1) = false:=rfl
  rw [this]
  simp only [Bool.false_eq_true,if_false]
  exact ih
theorem run_findKey_nil (hk : P.underlying k = some (.chan d e0)) (w : World) (es : List MapEntry) (ps : List (Nat × Value)) (h : EsOf es ps) : (Instr.findKey k (.chan none) es).run P w = .ok none w:=by
 unfold Instr.findKey
 simp only [Sem.run_bind,run_underlying hk,Result.andThen_ok]
 cases es with
 | nil => rfl
 | cons e es =>
  have : Instr.findNow (.chan d e0) (.chan none) (e :: es) 0 = none:=by
   simp [Instr.findNow,Instr.sameNow]
  rw [this]
  exact run_findAsking_nil hk w _ _ 0 h
theorem run_checkKey_nil (hk : P.underlying k = some (.chan d e0)) (b : Bool) (w : World) : (Instr.checkKey b 10000 k (.chan none)).run P w = .ok () w:=by
 rw [show (10000 : Nat) = 9999 + 1 by decide]
 unfold Instr.checkKey
 simp [run_underlying hk]
theorem run_lookup_nil {t e : TypeId} (ht : P.underlying t = some (.map k e)) (hk : P.underlying k = some (.chan d e0)) {z : Value} {w : World} (hz : (zeroValue e).run P w = .ok z w) {b : Nat} {ps : List (Nat × Value)} (h : ChanMap w b ps) :
  (Instr.lookup t (.map (some b)) (.chan none) true).run P w = .ok (.tuple #[z,.bool false]) w:=by
 obtain ⟨es,clock,hb,he⟩:=h
 unfold Instr.lookup
 have hg : (getObj b).run P w = .ok (.map es clock) w:=by first | exact run_getObj hb | (simp [getObj,Sem.run,hb])
 simp only [Sem.run_bind,run_underlying ht,Result.andThen_ok,hg,Sem.run_pure,run_checkKey_nil hk,run_findKey_nil hk w _ _ he]
 simp [hz]
theorem wpList_lookup_nil {ops : Array Oper} {rest : List Oper} {o : Oper} {a : Act} {Q : Exit -> Act -> World -> Prop} (w : World) (hg : o.guard = none) (m x : Operand) (t : TypeId) (hop : o.op = Op.lookup t m x true) (e : TypeId)
  (ht : P.underlying t = some (.map k e)) (hk : P.underlying k = some (.chan d e0)) (z : Value) (hz : (zeroValue e).run P w = .ok z w) (b : Nat) (ps : List (Nat × Value)) (hm : a.eval m = .map (some b)) (hx : a.eval x = .chan none) (h : ChanMap w b ps)
  (hK : wpList P ops Q rest (a.put o.dst (.tuple #[z,.bool false])) w) : wpList P ops Q (o :: rest) a w:=by
 refine wpList_plain hg λ K' hK' => ?_
 have hrun:=run_lookup_nil ht hk hz h
 unfold Oper.wp
 simp [execOp,hop,hm,hx,hrun,Result.andThen]
 exact hK' _ _ hK
end
set_option maxHeartbeats 1000000 in
theorem isEnded_nil {w : World} {base : Nat} {S : Sw} {ls : List Ln} (h : SwOk w base S ls) :
  Calls Tryd.prog 96 #[.pointer (some ⟨S.sp,0,none⟩),.chan none] w λ e w' => e = .returned (.bool false) /\ w' = w:=by
 obtain ⟨_,ps,hm,_⟩:=h.closed
 have ec:=blk_cell h.st
 have HM:=Lib.hid hm
 clear hm h
 go_enter Tryd.func96, Tryd.ntmps96
 go_wp2_with (at_lookup; refine wpList_lookup_nil _ rfl (.tmp 11) (.tmp 12) 109 rfl 3 Tryd.underlying109 und_chan (.int .i64 0) (zero_int _) S.mc ps rfl rfl HM.out ?_)
 go_ret
 exact ⟨rfl,rfl⟩
def readyF (l : Ln) (d : DeedD) : Bool:=
 if d.a = 0 then false else if d.act.toList = takeA then (decide (0 < l.held.length) || l.ended) else !l.ended && decide ((l.held.length : Int) < l.room)
theorem len_chan {W : World} {c n : Nat} {q : Array Value} {cl : Bool} {s r : Nat} (h : W.heap[c]? = some (.chan n q cl s r false)) : (Builtin.len_ #[113] 3 #[.chan (some c)]).run Tryd.prog W = .ok (.int .i64 (q.size : Int)) W:=by
 simp [Builtin.len_,go_sem,underlying,getObj,Sem.run,h]
theorem cap_chan {W : World} {c n : Nat} {q : Array Value} {cl : Bool} {s r : Nat} (h : W.heap[c]? = some (.chan n q cl s r false)) : (Builtin.cap_ #[113] 3 #[.chan (some c)]).run Tryd.prog W = .ok (.int .i64 (n : Int)) W:=by
 simp [Builtin.cap_,go_sem,underlying,getObj,Sem.run,h]
theorem len_chan0 (W : World) : (Builtin.len_ #[113] 3 #[.chan none]).run Tryd.prog W = .ok (.int .i64 0) W:=by
 simp [Builtin.len_,go_sem,underlying]
theorem cap_chan0 (W : World) : (Builtin.cap_ #[113] 3 #[.chan none]).run Tryd.prog W = .ok (.int .i64 0) W:=by
 simp [Builtin.cap_,go_sem,underlying]
end Go.Proofs.YtkfafknliihabaaDoor
namespace Go.Proofs.YtkfafknliihabaaDoor
open Go.RowKit Go.Conc
set_option maxRecDepth 20000 in
set_option maxHeartbeats 2000000 in
theorem ready0_take {w : World} {base : Nat} {S : Sw} {ls : List Ln} (h : SwOk w base S ls) (hw : base <= w.heap.size) {d : DeedD} (h0 : d.a = 0) (ht : d.act.toList = takeA) :
  Calls Tryd.prog 66 #[.pointer (some ⟨S.sp,0,none⟩),.agg #[.string d.act,.int .i64 d.a,.int .i64 d.b]] w λ e w' => e = .returned (.chan none) /\ Below w.heap.size w w':=by
 obtain ⟨s,x,y⟩:=d
 have hx : x = 0:=h0
 subst hx
 have h2:=str_is ht
 unfold takeA at h2
 have h3 : (s.toList == [112,117,116]) = false:=by rw [show s.toList = takeA from ht]; decide
 have ec:=blk_cell h.st
 have zs:=blk_lt h.st
 have eg:=row_cells (j:=0) (v:=.chan none) h.lines (by simp [Sw.lines])
 have zg:=blk_lt (row_blk h.lines).2.choose_spec.1
 have i1 : (0 : Int) < (S.cs.length : Int) + 1:=by omega
 have hln:=len_chan0
 have hcp:=cap_chan0
 have HH:=Lib.hid h
 clear h h0 ht
 go_enter Tryd.func66, Tryd.ntmps66
 go_upto_region 1 with fail
 go_region
 go_wp2_with (go_at_call 96; refine (isEnded_nil (HH.out.below (below_drew (below_al (Below.refl _ _) _)))).mono ?_; rintro e w1 ⟨rfl,rfl⟩)
 go_ret
 exact ⟨rfl,below_drew (below_al (Below.refl _ _) _)⟩
set_option maxRecDepth 20000 in
set_option maxHeartbeats 2000000 in
theorem ready0_put {w : World} {base : Nat} {S : Sw} {ls : List Ln} (h : SwOk w base S ls) (hw : base <= w.heap.size) {d : DeedD} (h0 : d.a = 0) (ht : d.act.toList = putA) :
  Calls Tryd.prog 66 #[.pointer (some ⟨S.sp,0,none⟩),.agg #[.string d.act,.int .i64 d.a,.int .i64 d.b]] w λ e w' => e = .returned (.chan none) /\ Below w.heap.size w w':=by
 obtain ⟨s,x,y⟩:=d
 have hx : x = 0:=h0
 subst hx
 have h2 : (s.toList == [116,97,107,101]) = false:=by rw [show s.toList = putA from ht]; decide
 have h3:=str_is ht
 unfold putA at h3
 have ec:=blk_cell h.st
 have zs:=blk_lt h.st
 have eg:=row_cells (j:=0) (v:=.chan none) h.lines (by simp [Sw.lines])
 have zg:=blk_lt (row_blk h.lines).2.choose_spec.1
 have i1 : (0 : Int) < (S.cs.length : Int) + 1:=by omega
 have hln:=len_chan0
 have hcp:=cap_chan0
 have HH:=Lib.hid h
 clear h h0 ht
 go_enter Tryd.func66, Tryd.ntmps66
 go_upto_region 1 with fail
 go_region
 go_wp2_with (go_at_call 96; refine (isEnded_nil (HH.out.below (below_drew (below_al (Below.refl _ _) _)))).mono ?_; rintro e w1 ⟨rfl,rfl⟩)
 go_ret
 exact ⟨rfl,below_drew (below_al (Below.refl _ _) _)⟩
set_option maxRecDepth 20000 in
set_option maxHeartbeats 2000000 in
theorem ready_take_held {w : World} {base : Nat} {S : Sw} {ls : List Ln} (h : SwOk w base S ls) (hw : base <= w.heap.size) {d : DeedD} {i c : Nat} {l : Ln} (hc : S.cs[i]? = some c) (hl : ls[i + 1]? = some l) (h0 : d.a = (i : Int) + 1) (ht : d.act.toList = takeA) (hh : 0 < l.held.length) :
  Calls Tryd.prog 66 #[.pointer (some ⟨S.sp,0,none⟩),.agg #[.string d.act,.int .i64 d.a,.int .i64 d.b]] w λ e w' => e = .returned (.chan (some c)) /\ Below w.heap.size w w':=by
 obtain ⟨s,x,y⟩:=d
 have hx : x = (i : Int) + 1:=h0
 subst hx
 have h2:=str_is ht
 unfold takeA at h2
 have h3 : (s.toList == [112,117,116]) = false:=by rw [show s.toList = takeA from ht]; decide
 have ec:=blk_cell h.st
 have zs:=blk_lt h.st
 have eg:=row_cells (j:=i + 1) (v:=.chan (some c)) h.lines (by simp [Sw.lines,hc])
 have zg:=blk_lt (row_blk h.lines).2.choose_spec.1
 have hic:=(List.getElem?_eq_some_iff.1 hc).1
 have i0 : (0 : Int) <= (i : Int) + 1:=by omega
 have i1 : (i : Int) + 1 < (S.cs.length : Int) + 1:=by omega
 obtain ⟨b1,b2,s0,r0,hch⟩:=h.chans i c l hc hl
 have hch2 : ((w.alloc (.cells #[.string s,.int .i64 ((i : Int) + 1),.int .i64 y] 34)).drew).heap[c]? = some (.chan l.room.toNat (ints l.held).toArray l.ended s0 r0 false):=blk_drew (blk_alloc hch _)
 have hsz : (ints l.held).toArray.size = l.held.length:=by simp [ints]
 have hln:=len_chan hch2
 rw [hsz] at hln
 have hcp:=cap_chan hch2
 have HH:=Lib.hid (And.intro h (And.intro hc hl))
 generalize l.held.length = hn at *
 generalize l.room.toNat = rn at *
 clear h hl h0 ht hc hch hch2 hsz
 go_enter Tryd.func66, Tryd.ntmps66
 go_upto_region 1 with fail
 go_region
 go_wp2_with (go_at_call 96; refine (isEnded_any (HH.out.1.below (below_drew (below_al (Below.refl _ _) _))) HH.out.2.1 HH.out.2.2).mono ?_; rintro e w1 ⟨rfl,rfl⟩; skip)
 go_ret
 exact ⟨rfl,below_drew (below_al (Below.refl _ _) _)⟩
set_option maxRecDepth 20000 in
set_option maxHeartbeats 2000000 in
theorem ready_take_ended {w : World} {base : Nat} {S : Sw} {ls : List Ln} (h : SwOk w base S ls) (hw : base <= w.heap.size) {d : DeedD} {i c : Nat} {l : Ln} (hc : S.cs[i]? = some c) (hl : ls[i + 1]? = some l) (h0 : d.a = (i : Int) + 1) (ht : d.act.toList = takeA) (hh : l.held.length = 0) (he : l.ended = true) :
  Calls Tryd.prog 66 #[.pointer (some ⟨S.sp,0,none⟩),.agg #[.string d.act,.int .i64 d.a,.int .i64 d.b]] w λ e w' => e = .returned (.chan (some c)) /\ Below w.heap.size w w':=by
 obtain ⟨s,x,y⟩:=d
 have hx : x = (i : Int) + 1:=h0
 subst hx
 have h2:=str_is ht
 unfold takeA at h2
 have h3 : (s.toList == [112,117,116]) = false:=by rw [show s.toList = takeA from ht]; decide
 have ec:=blk_cell h.st
 have zs:=blk_lt h.st
 have eg:=row_cells (j:=i + 1) (v:=.chan (some c)) h.lines (by simp [Sw.lines,hc])
 have zg:=blk_lt (row_blk h.lines).2.choose_spec.1
 have hic:=(List.getElem?_eq_some_iff.1 hc).1
 have i0 : (0 : Int) <= (i : Int) + 1:=by omega
 have i1 : (i : Int) + 1 < (S.cs.length : Int) + 1:=by omega
 obtain ⟨b1,b2,s0,r0,hch⟩:=h.chans i c l hc hl
 have hch2 : ((w.alloc (.cells #[.string s,.int .i64 ((i : Int) + 1),.int .i64 y] 34)).drew).heap[c]? = some (.chan l.room.toNat (ints l.held).toArray l.ended s0 r0 false):=blk_drew (blk_alloc hch _)
 have hsz : (ints l.held).toArray.size = l.held.length:=by simp [ints]
 have hln:=len_chan hch2
 rw [hsz] at hln
 have hcp:=cap_chan hch2
 have HE:=Lib.hid he
 clear he
 rw [hh] at hln
 have HH:=Lib.hid (And.intro h (And.intro hc hl))
 generalize l.held.length = hn at *
 generalize l.room.toNat = rn at *
 clear h hl h0 ht hc hch hch2 hsz
 go_enter Tryd.func66, Tryd.ntmps66
 go_upto_region 1 with fail
 go_region
 go_wp2_with (go_at_call 96; refine (isEnded_any (HH.out.1.below (below_drew (below_al (Below.refl _ _) _))) HH.out.2.1 HH.out.2.2).mono ?_; rintro e w1 ⟨rfl,rfl⟩; rw [HE.out])
 go_ret
 exact ⟨rfl,below_drew (below_al (Below.refl _ _) _)⟩
set_option maxRecDepth 20000 in
set_option maxHeartbeats 2000000 in
theorem ready_take_not {w : World} {base : Nat} {S : Sw} {ls : List Ln} (h : SwOk w base S ls) (hw : base <= w.heap.size) {d : DeedD} {i c : Nat} {l : Ln} (hc : S.cs[i]? = some c) (hl : ls[i + 1]? = some l) (h0 : d.a = (i : Int) + 1) (ht : d.act.toList = takeA) (hh : l.held.length = 0) (he : l.ended = false) :
  Calls Tryd.prog 66 #[.pointer (some ⟨S.sp,0,none⟩),.agg #[.string d.act,.int .i64 d.a,.int .i64 d.b]] w λ e w' => e = .returned (.chan none) /\ Below w.heap.size w w':=by
 obtain ⟨s,x,y⟩:=d
 have hx : x = (i : Int) + 1:=h0
 subst hx
 have h2:=str_is ht
 unfold takeA at h2
 have h3 : (s.toList == [112,117,116]) = false:=by rw [show s.toList = takeA from ht]; decide
 have ec:=blk_cell h.st
 have zs:=blk_lt h.st
 have eg:=row_cells (j:=i + 1) (v:=.chan (some c)) h.lines (by simp [Sw.lines,hc])
 have zg:=blk_lt (row_blk h.lines).2.choose_spec.1
 have hic:=(List.getElem?_eq_some_iff.1 hc).1
 have i0 : (0 : Int) <= (i : Int) + 1:=by omega
 have i1 : (i : Int) + 1 < (S.cs.length : Int) + 1:=by omega
 obtain ⟨b1,b2,s0,r0,hch⟩:=h.chans i c l hc hl
 have hch2 : ((w.alloc (.cells #[.string s,.int .i64 ((i : Int) + 1),.int .i64 y] 34)).drew).heap[c]? = some (.chan l.room.toNat (ints l.held).toArray l.ended s0 r0 false):=blk_drew (blk_alloc hch _)
 have hsz : (ints l.held).toArray.size = l.held.length:=by simp [ints]
 have hln:=len_chan hch2
 rw [hsz] at hln
 have hcp:=cap_chan hch2
 have HE:=Lib.hid he
 clear he
 rw [hh] at hln
 have HH:=Lib.hid (And.intro h (And.intro hc hl))
 generalize l.held.length = hn at *
 generalize l.room.toNat = rn at *
 clear h hl h0 ht hc hch hch2 hsz
 go_enter Tryd.func66, Tryd.ntmps66
 go_upto_region 1 with fail
 go_region
 go_wp2_with (go_at_call 96; refine (isEnded_any (HH.out.1.below (below_drew (below_al (Below.refl _ _) _))) HH.out.2.1 HH.out.2.2).mono ?_; rintro e w1 ⟨rfl,rfl⟩; rw [HE.out])
 go_ret
 exact ⟨rfl,below_drew (below_al (Below.refl _ _) _)⟩
set_option maxRecDepth 20000 in
set_option maxHeartbeats 2000000 in
theorem ready_put_ended {w : World} {base : Nat} {S : Sw} {ls : List Ln} (h : SwOk w base S ls) (hw : base <= w.heap.size) {d : DeedD} {i c : Nat} {l : Ln} (hc : S.cs[i]? = some c) (hl : ls[i + 1]? = some l) (h0 : d.a = (i : Int) + 1) (ht : d.act.toList = putA) (he : l.ended = true) :
  Calls Tryd.prog 66 #[.pointer (some ⟨S.sp,0,none⟩),.agg #[.string d.act,.int .i64 d.a,.int .i64 d.b]] w λ e w' => e = .returned (.chan none) /\ Below w.heap.size w w':=by
 obtain ⟨s,x,y⟩:=d
 have hx : x = (i : Int) + 1:=h0
 subst hx
 have h2 : (s.toList == [116,97,107,101]) = false:=by rw [show s.toList = putA from ht]; decide
 have h3:=str_is ht
 unfold putA at h3
 have ec:=blk_cell h.st
 have zs:=blk_lt h.st
 have eg:=row_cells (j:=i + 1) (v:=.chan (some c)) h.lines (by simp [Sw.lines,hc])
 have zg:=blk_lt (row_blk h.lines).2.choose_spec.1
 have hic:=(List.getElem?_eq_some_iff.1 hc).1
 have i0 : (0 : Int) <= (i : Int) + 1:=by omega
 have i1 : (i : Int) + 1 < (S.cs.length : Int) + 1:=by omega
 obtain ⟨b1,b2,s0,r0,hch⟩:=h.chans i c l hc hl
 have hch2 : ((w.alloc (.cells #[.string s,.int .i64 ((i : Int) + 1),.int .i64 y] 34)).drew).heap[c]? = some (.chan l.room.toNat (ints l.held).toArray l.ended s0 r0 false):=blk_drew (blk_alloc hch _)
 have hsz : (ints l.held).toArray.size = l.held.length:=by simp [ints]
 have hln:=len_chan hch2
 rw [hsz] at hln
 have hcp:=cap_chan hch2
 have HE:=Lib.hid he
 clear he
 have HH:=Lib.hid (And.intro h (And.intro hc hl))
 generalize l.held.length = hn at *
 generalize l.room.toNat = rn at *
 clear h hl h0 ht hc hch hch2 hsz
 go_enter Tryd.func66, Tryd.ntmps66
 go_upto_region 1 with fail
 go_region
 go_wp2_with (go_at_call 96; refine (isEnded_any (HH.out.1.below (below_drew (below_al (Below.refl _ _) _))) HH.out.2.1 HH.out.2.2).mono ?_; rintro e w1 ⟨rfl,rfl⟩; rw [HE.out])
 go_ret
 exact ⟨rfl,below_drew (below_al (Below.refl _ _) _)⟩
set_option maxRecDepth 20000 in
set_option maxHeartbeats 2000000 in
theorem ready_put_room {w : World} {base : Nat} {S : Sw} {ls : List Ln} (h : SwOk w base S ls) (hw : base <= w.heap.size) {d : DeedD} {i c : Nat} {l : Ln} (hc : S.cs[i]? = some c) (hl : ls[i + 1]? = some l) (h0 : d.a = (i : Int) + 1) (ht : d.act.toList = putA) (he : l.ended = false) (hh : l.held.length < l.room.toNat) :
  Calls Tryd.prog 66 #[.pointer (some ⟨S.sp,0,none⟩),.agg #[.string d.act,.int .i64 d.a,.int .i64 d.b]] w λ e w' => e = .returned (.chan (some c)) /\ Below w.heap.size w w':=by
 obtain ⟨s,x,y⟩:=d
 have hx : x = (i : Int) + 1:=h0
 subst hx
 have h2 : (s.toList == [116,97,107,101]) = false:=by rw [show s.toList = putA from ht]; decide
 have h3:=str_is ht
 unfold putA at h3
 have ec:=blk_cell h.st
 have zs:=blk_lt h.st
 have eg:=row_cells (j:=i + 1) (v:=.chan (some c)) h.lines (by simp [Sw.lines,hc])
 have zg:=blk_lt (row_blk h.lines).2.choose_spec.1
 have hic:=(List.getElem?_eq_some_iff.1 hc).1
 have i0 : (0 : Int) <= (i : Int) + 1:=by omega
 have i1 : (i : Int) + 1 < (S.cs.length : Int) + 1:=by omega
 obtain ⟨b1,b2,s0,r0,hch⟩:=h.chans i c l hc hl
 have hch2 : ((w.alloc (.cells #[.string s,.int .i64 ((i : Int) + 1),.int .i64 y] 34)).drew).heap[c]? = some (.chan l.room.toNat (ints l.held).toArray l.ended s0 r0 false):=blk_drew (blk_alloc hch _)
 have hsz : (ints l.held).toArray.size = l.held.length:=by simp [ints]
 have hln:=len_chan hch2
 rw [hsz] at hln
 have hcp:=cap_chan hch2
 have HE:=Lib.hid he
 clear he
 have HH:=Lib.hid (And.intro h (And.intro hc hl))
 generalize l.held.length = hn at *
 generalize l.room.toNat = rn at *
 clear h hl h0 ht hc hch hch2 hsz
 go_enter Tryd.func66, Tryd.ntmps66
 go_upto_region 1 with fail
 go_region
 go_wp2_with (go_at_call 96; refine (isEnded_any (HH.out.1.below (below_drew (below_al (Below.refl _ _) _))) HH.out.2.1 HH.out.2.2).mono ?_; rintro e w1 ⟨rfl,rfl⟩; rw [HE.out])
 go_ret
 exact ⟨rfl,below_drew (below_al (Below.refl _ _) _)⟩
set_option maxRecDepth 20000 in
set_option maxHeartbeats 2000000 in
theorem ready_put_full {w : World} {base : Nat} {S : Sw} {ls : List Ln} (h : SwOk w base S ls) (hw : base <= w.heap.size) {d : DeedD} {i c : Nat} {l : Ln} (hc : S.cs[i]? = some c) (hl : ls[i + 1]? = some l) (h0 : d.a = (i : Int) + 1) (ht : d.act.toList = putA) (he : l.ended = false) (hh : ¬ l.held.length < l.room.toNat) :
  Calls Tryd.prog 66 #[.pointer (some ⟨S.sp,0,none⟩),.agg #[.string d.act,.int .i64 d.a,.int .i64 d.b]] w λ e w' => e = .returned (.chan none) /\ Below w.heap.size w w':=by
 obtain ⟨s,x,y⟩:=d
 have hx : x = (i : Int) + 1:=h0
 subst hx
 have h2 : (s.toList == [116,97,107,101]) = false:=by rw [show s.toList = putA from ht]; decide
 have h3:=str_is ht
 unfold putA at h3
 have ec:=blk_cell h.st
 have zs:=blk_lt h.st
 have eg:=row_cells (j:=i + 1) (v:=.chan (some c)) h.lines (by simp [Sw.lines,hc])
 have zg:=blk_lt (row_blk h.lines).2.choose_spec.1
 have hic:=(List.getElem?_eq_some_iff.1 hc).1
 have i0 : (0 : Int) <= (i : Int) + 1:=by omega
 have i1 : (i : Int) + 1 < (S.cs.length : Int) + 1:=by omega
 obtain ⟨b1,b2,s0,r0,hch⟩:=h.chans i c l hc hl
 have hch2 : ((w.alloc (.cells #[.string s,.int .i64 ((i : Int) + 1),.int .i64 y] 34)).drew).heap[c]? = some (.chan l.room.toNat (ints l.held).toArray l.ended s0 r0 false):=blk_drew (blk_alloc hch _)
 have hsz : (ints l.held).toArray.size = l.held.length:=by simp [ints]
 have hln:=len_chan hch2
 rw [hsz] at hln
 have hcp:=cap_chan hch2
 have HE:=Lib.hid he
 clear he
 have HH:=Lib.hid (And.intro h (And.intro hc hl))
 generalize l.held.length = hn at *
 generalize l.room.toNat = rn at *
 clear h hl h0 ht hc hch hch2 hsz
 go_enter Tryd.func66, Tryd.ntmps66
 go_upto_region 1 with fail
 go_region
 go_wp2_with (go_at_call 96; refine (isEnded_any (HH.out.1.below (below_drew (below_al (Below.refl _ _) _))) HH.out.2.1 HH.out.2.2).mono ?_; rintro e w1 ⟨rfl,rfl⟩; rw [HE.out])
 go_ret
 exact ⟨rfl,below_drew (below_al (Below.refl _ _) _)⟩
end Go.Proofs.YtkfafknliihabaaDoor
namespace Go.Proofs.YtkfafknliihabaaDoor
open Go.RowKit Go.Conc
def d00 : DeedD:=⟨⟨#[]⟩,0,0⟩
def l00 : Ln:=⟨0,[],false,[]⟩
def readyUpto (k : Nat) (ls : List Ln) (ts : List DeedD) : List Int:=((List.range k).filter λ i => readyF (ls.getD (ts.getD i d00).a.toNat l00) (ts.getD i d00)).map λ i : Nat => (i : Int)
theorem readyUpto_succ {k : Nat} {ls : List Ln} {ts : List DeedD} {d : DeedD} {l : Ln} (hd : ts[k]? = some d) (hl : ls[d.a.toNat]? = some l) : readyUpto (k + 1) ls ts = readyUpto k ls ts ++ (if readyF l d then [(k : Int)] else []):=by
 unfold readyUpto
 have e1 : ts.getD k d00 = d:=by rw [List.getD_eq_getElem?_getD,hd]; rfl
 have e2 : ls.getD d.a.toNat l00 = l:=by rw [List.getD_eq_getElem?_getD,hl]; rfl
 rw [List.range_succ,List.filter_append,List.map_append]
 congr 1
 simp only [List.filter_cons,List.filter_nil,e1,e2]
 cases readyF l d <;> simp
theorem readyUpto_len (k : Nat) (ls : List Ln) (ts : List DeedD) : (readyUpto k ls ts).length <= k:=by
 unfold readyUpto
 rw [List.length_map]
 exact Nat.le_trans (List.length_filter_le _ _) (by simp)
theorem ent_of {lines : Int} {ts : List DeedD} (h : tableB ts lines = true) : (1 <= ts.length /\ ts.length <= 8) /\ ∀ d ∈ ts,deedP lines d /\ (d.act.toList == putA || d.act.toList == takeA) = true:=by
 unfold tableB at h
 simp only [Bool.and_eq_true,List.all_eq_true] at h
 refine ⟨?_,λ d hd => ?_⟩
 ·have:=h.2; simp [inB] at this; omega
 ·have:=h.1.1 d hd
  unfold entB at this
  simp only [Bool.and_eq_true] at this
  exact ⟨(validB_of _ _).1 this.1.2,this.2⟩
end Go.Proofs.YtkfafknliihabaaDoor
namespace Go.Proofs.YtkfafknliihabaaDoor
open Go.RowKit Go.Conc
set_option maxRecDepth 20000 in
set_option maxHeartbeats 4000000 in
theorem spec_l5Ready {w : World} {gl N cl : Nat} {vs : List LnV} {v : LnV} {l : Ln} {d : DeedD} {P : Nat -> Prop} (hrow : w.ownsRow 0 102 4 (.slice (some ⟨gl,0,none⟩) N cl) N (lnCells vs)) (hv : vs[d.a.toNat]? = some v) (h0 : 0 <= d.a) (ok : LnOk w P v l) (hsm : l.held.length <= 1000) (hact : (d.act.toList == putA || d.act.toList == takeA) = true) :
  Calls Tryd.prog 93 #[.slice (some ⟨gl,0,none⟩) N cl,.agg #[.string d.act,.int .i64 d.a,.int .i64 d.b]] w λ e w' => e = .returned (.bool (readyF l d)) /\ Below w.heap.size w w':=by
 have hlen:=lns_len hrow
 have hL : d.a.toNat < N:=by have:=(List.getElem?_eq_some_iff.1 hv).1; omega
 obtain ⟨s,x,y⟩:=d
 obtain ⟨L,rfl⟩:=Int.eq_ofNat_of_zero_le h0
 have hnh:=ok.held.length
 have hro:=ok.room
 have hen:=ok.ended
 obtain ⟨c0,c1,c2,c3⟩:=lnCells_get hv
 have k0:=row_cells hrow c0
 have k1:=row_cells hrow c1
 have k2:=row_cells hrow c2
 have k3:=row_cells hrow c3
 simp only [Int.toNat_natCast,Nat.add_zero] at k0 k1 k2 k3 hL
 obtain ⟨_,cs,kgl,_⟩:=row_blk hrow
 have zg:=blk_lt kgl
 obtain ⟨vr,vA,vn,vc,ve,vAT,vnT,vcT⟩:=v
 simp only at hro hen k0 k1 k2 k3 hnh
 subst hro hen
 have hvn : vn <= 1000:=by omega
 have hact' : (s.toList == [112,117,116]) = true \/ (s.toList == [116,97,107,101]) = true:=by simpa [putA,takeA] using hact
 have hF : readyF l ⟨s,L,y⟩ = if (L : Int) = 0 then false else if s.toList = takeA then (decide (0 < vn) || l.ended) else !l.ended && decide ((vn : Int) < l.room):=by unfold readyF; rw [hnh]
 rw [hF]
 have i1 : (L : Int) < (N : Int):=by omega
 obtain ⟨t,ht⟩ : ∃ t,t = l.ended:=⟨_,rfl⟩
 rw [<- ht] at k2 ⊢
 generalize l.room = R at *
 clear hF hrow hv ok hact c0 c1 c2 c3 hlen hnh ht
 have hput : s.toList = [112,117,116] -> ¬ s.toList = [116,97,107,101]:=by intro e; rw [e]; decide
 by_cases hz : L = 0
 ·subst hz
  go_enter Tryd.func93, Tryd.ntmps93
  go_wp2
  go_ret
  exact ⟨rfl,below_al (below_al (Below.refl _ _) _) _⟩
 ·have hz' : ¬ (L : Int) = 0:=by omega
  rcases hact' with ha | ha
  ·have hnt : ¬ s.toList = takeA:=by
    have : s.toList = putA:=by simpa [putA] using ha
    rw [this]; decide
   have hnt' : (s.toList == [116,97,107,101]) = false:=by simpa [takeA] using hnt
   rw [if_neg hz',if_neg hnt]
   cases t
   all_goals
    go_enter Tryd.func93, Tryd.ntmps93
    go_wp2
    go_ret
    exact ⟨ret_bool (by simp),below_al (below_al (Below.refl _ _) _) _⟩
  ·have hnt : s.toList = takeA:=by simpa [takeA] using ha
   rw [if_neg hz',if_pos hnt]
   by_cases hn0 : 0 < vn
   all_goals
    go_enter Tryd.func93, Tryd.ntmps93
    go_wp2
    go_ret
    exact ⟨ret_bool (by simp_all),below_al (below_al (Below.refl _ _) _) _⟩
end Go.Proofs.YtkfafknliihabaaDoor
namespace Go.Proofs.YtkfafknliihabaaDoor
open Go.RowKit Go.Conc
set_option maxRecDepth 20000 in
set_option maxHeartbeats 4000000 in
theorem spec_l5All {w w0 : World} {gl cl go co N k0 : Nat} {vs : List LnV} {s : List Ln × List (List UInt8)} {lines : Int} {ts : List DeedD} (St : RunSt w0 w gl cl go co N k0 vs s) (hN : lines + 1 = N) (hsm : ∀ l ∈ s.1,l.held.length <= 1000) (ht : tableB ts lines = true) {lo hi n c : Nat} {A : Option Addr} (h2 : Slc w lo hi 3 A n c (deeds ts)) :
  Calls Tryd.prog 61 #[.slice (some ⟨gl,0,none⟩) N cl,.slice A n c] w (NewV 3 1 w (ints (readyUpto ts.length s.1 ts))):=by
 obtain ⟨⟨t1,t8⟩,hts⟩:=ent_of ht
 have hlm:=h2.deedLen
 have hn8 : n <= 8:=by omega
 have HT:=Lib.hid (And.intro hts hsm)
 have HLM:=Lib.hid hlm
 have HSW:=Lib.hid St
 obtain ⟨i0,hi0,hz0,hz1,hz2⟩:=info_parts info_int
 have HI:=Lib.hid (And.intro hi0 (And.intro hz0 (And.intro hz1 hz2)))
 clear hi0 hz0 hz1 hz2 St hlm hts hsm ht t1 t8
 go_enter Tryd.func61, Tryd.ntmps61
 go_wp2
 go_loopw [5,6] (λ v i wr => ∃ (k g cO : Nat),k <= n /\ i = .int .i64 k /\ v = .slice (some ⟨g,0,none⟩) (readyUpto k s.1 ts).length cO /\ wr.ownsRow w.heap.size 3 1 (.slice (some ⟨g,0,none⟩) (readyUpto k s.1 ts).length cO) (readyUpto k s.1 ts).length (ints (readyUpto k s.1 ts)) /\ Below w.heap.size w wr) (λ _ i _ => n - (intOf i).toNat)
 case atStart => exact ⟨0,w.heap.size,0,Nat.zero_le _,rfl,rfl,row_empty (Nat.le_refl _) (heap_alloc_new _ _),below_al (Below.refl _ _) _⟩
 case round =>
  obtain ⟨k,g,cO,hk,rfl,rfl,hown,B⟩:=hrel
  have HOW:=Lib.hid (And.intro hown B)
  clear hown
  by_cases hlt : k < n
  ·obtain ⟨b,off,d,hA,_,_,h3,hxk,hv0,hv1,hv2⟩:=(h2.below B).deedAt hlt
   subst hA
   obtain ⟨hp,hact⟩:=HT.out.1 d (List.mem_of_getElem? hxk)
   have hLt : d.a.toNat < N:=by
    have:=hp.2.1
    have:=hp.2.2.1
    omega
   obtain ⟨l,hl⟩ : ∃ l,s.1[d.a.toNat]? = some l:=⟨_,List.getElem?_eq_getElem (by rw [HSW.out.len]; exact hLt)⟩
   obtain ⟨v,hv⟩ : ∃ v,vs[d.a.toNat]? = some v:=⟨_,List.getElem?_eq_getElem (by rw [lns_len HSW.out.lines]; exact hLt)⟩
   have HL:=Lib.hid (readyUpto_succ hxk hl)
   have hlen:=readyUpto_len k s.1 ts
   have i0' : (0 : Int) <= (k : Int):=by omega
   have i1 : (k : Int) < (n : Int):=by omega
   have zw:=B.size
   obtain ⟨q1,csr,q2,q3,q4,q5,q6⟩:=row_blk HSW.out.lines
   have hrow : wr.ownsRow 0 102 4 (.slice (some ⟨gl,0,none⟩) N cl) N (lnCells vs):=⟨HSW.out.lines.1,.inr ⟨gl,cl,csr,rfl,Nat.zero_le _,(B.block _ (blk_lt q2)).trans q2,q3,q4,q5,q6⟩⟩
   have ok:=((HSW.out.lns _ v l hv hl).1).below B
   have CALL:=spec_l5Ready (d:=d) hrow hv hp.2.1 ok (HT.out.2 l (List.mem_of_getElem? hl)) hact
   have HCALL:=Lib.hid CALL
   clear CALL hxk hl hp hact hLt h2 hv ok hrow q1 q2 q3 q4 q5 q6
   generalize hU : readyUpto k s.1 ts = U at *
   have HU:=Lib.hid hU
   clear hU
   generalize hTE : readyF l d = t at *
   have HTE:=Lib.hid hTE
   clear hTE
   cases t with
   | false =>
    go_wp2_with (go_at_call 93; refine HCALL.out.mono ?_; rintro e w1 ⟨rfl,b1⟩)
    go_roundw
    case rel => exact ⟨k + 1,g,cO,by omega,by go_num,by rw [HL.out]; simp,by rw [HL.out]; simpa using row_below' HOW.out.1 b1,below_step HOW.out.2 b1⟩
    case measure => simp [intOf]; omega
   | true =>
    obtain ⟨hi0,hz0,hz1,hz2⟩:=HI.out
    have HHI:=Lib.hid hi0
    clear hi0
    go_wp2_with (first
     | (go_at_call 93; refine HCALL.out.mono ?_; rintro e w1 ⟨rfl,b1⟩; have zb:=b1.size; have HBB:=Lib.hid b1; clear b1)
     | (at_builtin; refine wpList_append_lies _ rfl (.tmp 20) (.tmp 22) 23 rfl w.heap.size 3 i0 (.int .i64 0) 1 8 Tryd.underlying23 HHI.out hz0 hz1 hz2 rfl (by decide) (.slice (some ⟨g,0,none⟩) U.length cO) U.length _ rfl (row_below' (row_below' HOW.out.1 HBB.out) (below_al (Below.refl _ _) _)) ⟨_,0,none⟩ 1 1 [.int .i64 k] rfl rfl (cell_one_new _ _ _) (by simp [Value.oneCell']) (by decide) (by unfold maxLen; omega) (by omega) (by simp; omega) _ rfl ?_; intro g2 c2n w4 hown2 hgr2 hat2 hlt2; have HO2:=Lib.hid hown2; have HG2:=Lib.hid hgr2; have HAT:=Lib.hid hat2; clear hown2 hgr2 hat2))
    go_roundw
    case rel =>
     have hgr:=HG2.out
     refine ⟨k + 1,g2,c2n,by omega,by go_num,by rw [HL.out]; simp,?_,?_⟩
     ·rw [HL.out]; simpa [ints] using HO2.out
     ·exact (below_al (below_step HOW.out.2 HBB.out) _).trans (row_below (row_below' HOW.out.1 HBB.out) hgr (by simp; omega))
    case measure => simp [intOf]; omega
  ·have e : k = n:=by omega
   subst e
   go_wp2
   go_ret
   obtain ⟨A',c',e',o⟩:=ownV_of_row HOW.out.1 (by decide)
   injection e' with e1 e2 e3
   subst e1 e3
   rw [HLM.out]
   exact ⟨_,_,_,rfl,o,HOW.out.2⟩
theorem choice_of {rooms : List Int} {ds ts : List DeedD} (h : choiceB rooms ds ts = true) : deedsB rooms ds = true /\ tableB ts rooms.length = true:=by
 unfold choiceB at h; simpa using h
end Go.Proofs.YtkfafknliihabaaDoor
