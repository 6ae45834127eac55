/-
 Part 3 of what stands behind the last text.
-/
import Derived.Conc.Own
import Derived.StepT
import Derived.Laws.Sem
import Derived.Test.YtkfafknliihabaaDoorServAPq2
set_option linter.unusedSectionVars false
set_option linter.unusedSimpArgs false
set_option linter.unusedVariables false
namespace Go.Proofs.YtkfafknliihabaaDoor
open Go.RowKit Go.Conc
section
variable {P : Program} {k : TypeId} {d : ChanDir} {e0 : TypeId}
theorem run_findAsking_nil (hk : P.underlying k = some (.chan d e0)) (w : World) : ∀ (es : List MapEntry) (ps : List (Nat × Value)) (i : Nat),EsOf es ps -> (Instr.findAsking k (.chan none) es i).run P w = .ok none w
 | [],ps,i,h => rfl
 | e :: es,ps,i,h => by
  obtain ⟨p,qs,rfl,h1,h2,h3⟩:=h.cons_inv
  have ih:=run_findAsking_nil hk w es qs (i + 1) h3
  unfold Instr.findAsking
  simp only [Sem.run_bind,h1,run_equal_chan hk,Result.andThen_ok]
  have : ((none : Option Nat) == some p.1) = false:=rfl
  rw [this]
  simp only [Bool.false_eq_true,if_false]
  exact ih
theorem run_findKey_nil (hk : P.underlying k = some (.chan d e0)) (w : World) (es : List MapEntry) (ps : List (Nat × Value)) (h : EsOf es ps) : (Instr.findKey k (.chan none) es).run P w = .ok none w:=by
 unfold Instr.findKey
 simp only [Sem.run_bind,run_underlying hk,Result.andThen_ok]
 cases es with
 | nil => rfl
 | cons e es =>
  have : Instr.findNow (.chan d e0) (.chan none) (e :: es) 0 = none:=by
   simp [Instr.findNow,Instr.sameNow]
  rw [this]
  exact run_findAsking_nil hk w _ _ 0 h
theorem run_checkKey_nil (hk : P.underlying k = some (.chan d e0)) (b : Bool) (w : World) : (Instr.checkKey b 10000 k (.chan none)).run P w = .ok () w:=by
 rw [show (10000 : Nat) = 9999 + 1 by decide]
 unfold Instr.checkKey
 simp [run_underlying hk]
theorem run_lookup_nil {t e : TypeId} (ht : P.underlying t = some (.map k e)) (hk : P.underlying k = some (.chan d e0)) {z : Value} {w : World} (hz : (zeroValue e).run P w = .ok z w) {b : Nat} {ps : List (Nat × Value)} (h : ChanMap w b ps) :
  (Instr.lookup t (.map (some b)) (.chan none) true).run P w = .ok (.tuple #[z,.bool false]) w:=by
 obtain ⟨es,clock,hb,he⟩:=h
 unfold Instr.lookup
 have hg : (getObj b).run P w = .ok (.map es clock) w:=by first | exact run_getObj hb | (simp [getObj,Sem.run,hb])
 simp only [Sem.run_bind,run_underlying ht,Result.andThen_ok,hg,Sem.run_pure,run_checkKey_nil hk,run_findKey_nil hk w _ _ he]
 simp [hz]
theorem wpList_lookup_nil {ops : Array Oper} {rest : List Oper} {o : Oper} {a : Act} {Q : Exit -> Act -> World -> Prop} (w : World) (hg : o.guard = none) (m x : Operand) (t : TypeId) (hop : o.op = Op.lookup t m x true) (e : TypeId)
  (ht : P.underlying t = some (.map k e)) (hk : P.underlying k = some (.chan d e0)) (z : Value) (hz : (zeroValue e).run P w = .ok z w) (b : Nat) (ps : List (Nat × Value)) (hm : a.eval m = .map (some b)) (hx : a.eval x = .chan none) (h : ChanMap w b ps)
  (hK : wpList P ops Q rest (a.put o.dst (.tuple #[z,.bool false])) w) : wpList P ops Q (o :: rest) a w:=by
 refine wpList_plain hg λ K' hK' => ?_
 have hrun:=run_lookup_nil ht hk hz h
 unfold Oper.wp
 simp [execOp,hop,hm,hx,hrun,Result.andThen]
 exact hK' _ _ hK
end
set_option maxHeartbeats 1000000 in
theorem isEnded_nil {w : World} {base : Nat} {S : Sw} {ls : List Ln} (h : SwOk w base S ls) :
  Calls Tryd.prog 96 #[.pointer (some ⟨S.sp,0,none⟩),.chan none] w λ e w' => e = .returned (.bool false) /\ w' = w:=by
 obtain ⟨_,ps,hm,_⟩:=h.closed
 have ec:=blk_cell h.st
 have HM:=Lib.hid hm
 clear hm h
 go_enter Tryd.func96, Tryd.ntmps96
 go_wp2_with (at_lookup; refine wpList_lookup_nil _ rfl (.tmp 11) (.tmp 12) 109 rfl 3 Tryd.underlying109 und_chan (.int .i64 0) (zero_int _) S.mc ps rfl rfl HM.out ?_)
 go_ret
 exact ⟨rfl,rfl⟩
def readyF (l : Ln) (d : DeedD) : Bool:=
 if d.a = 0 then false else if d.act.toList = takeA then (decide (0 < l.held.length) || l.ended) else !l.ended && decide ((l.held.length : Int) < l.room)
theorem len_chan {W : World} {c n : Nat} {q : Array Value} {cl : Bool} {s r : Nat} (h : W.heap[c]? = some (.chan n q cl s r false)) : (Builtin.len_ #[113] 3 #[.chan (some c)]).run Tryd.prog W = .ok (.int .i64 (q.size : Int)) W:=by
 simp [Builtin.len_,go_sem,underlying,getObj,Sem.run,h]
theorem cap_chan {W : World} {c n : Nat} {q : Array Value} {cl : Bool} {s r : Nat} (h : W.heap[c]? = some (.chan n q cl s r false)) : (Builtin.cap_ #[113] 3 #[.chan (some c)]).run Tryd.prog W = .ok (.int .i64 (n : Int)) W:=by
 simp [Builtin.cap_,go_sem,underlying,getObj,Sem.run,h]
theorem len_chan0 (W : World) : (Builtin.len_ #[113] 3 #[.chan none]).run Tryd.prog W = .ok (.int .i64 0) W:=by
 simp [Builtin.len_,go_sem,underlying]
theorem cap_chan0 (W : World) : (Builtin.cap_ #[113] 3 #[.chan none]).run Tryd.prog W = .ok (.int .i64 0) W:=by
 simp [Builtin.cap_,go_sem,underlying]
end Go.Proofs.YtkfafknliihabaaDoor
namespace Go.Proofs.YtkfafknliihabaaDoor
open Go.RowKit Go.Conc
set_option maxRecDepth 20000 in
set_option maxHeartbeats 2000000 in
theorem ready0_take {w : World} {base : Nat} {S : Sw} {ls : List Ln} (h : SwOk w base S ls) (hw : base <= w.heap.size) {d : DeedD} (h0 : d.a = 0) (ht : d.act.toList = takeA) :
  Calls Tryd.prog 66 #[.pointer (some ⟨S.sp,0,none⟩),.agg #[.string d.act,.int .i64 d.a,.int .i64 d.b]] w λ e w' => e = .returned (.chan none) /\ Below w.heap.size w w':=by
 obtain ⟨s,x,y⟩:=d
 have hx : x = 0:=h0
 subst hx
 have h2:=str_is ht
 unfold takeA at h2
 have h3 : (s.toList == [112,117,116]) = false:=by rw [show s.toList = takeA from ht]; decide
 have ec:=blk_cell h.st
 have zs:=blk_lt h.st
 have eg:=row_cells (j:=0) (v:=.chan none) h.lines (by simp [Sw.lines])
 have zg:=blk_lt (row_blk h.lines).2.choose_spec.1
 have i1 : (0 : Int) < (S.cs.length : Int) + 1:=by omega
 have hln:=len_chan0
 have hcp:=cap_chan0
 have HH:=Lib.hid h
 clear h h0 ht
 go_enter Tryd.func66, Tryd.ntmps66
 go_upto_region 1 with fail
 go_region
 go_wp2_with (go_at_call 96; refine (isEnded_nil (HH.out.below (below_drew (below_al (Below.refl _ _) _)))).mono ?_; rintro e w1 ⟨rfl,rfl⟩)
 go_ret
 exact ⟨rfl,below_drew (below_al (Below.refl _ _) _)⟩
set_option maxRecDepth 20000 in
set_option maxHeartbeats 2000000 in
theorem ready0_put {w : World} {base : Nat} {S : Sw} {ls : List Ln} (h : SwOk w base S ls) (hw : base <= w.heap.size) {d : DeedD} (h0 : d.a = 0) (ht : d.act.toList = putA) :
  Calls Tryd.prog 66 #[.pointer (some ⟨S.sp,0,none⟩),.agg #[.string d.act,.int .i64 d.a,.int .i64 d.b]] w λ e w' => e = .returned (.chan none) /\ Below w.heap.size w w':=by
 obtain ⟨s,x,y⟩:=d
 have hx : x = 0:=h0
 subst hx
 have h2 : (s.toList == [116,97,107,101]) = false:=by rw [show s.toList = putA from ht]; decide
 have h3:=str_is ht
 unfold putA at h3
 have ec:=blk_cell h.st
 have zs:=blk_lt h.st
 have eg:=row_cells (j:=0) (v:=.chan none) h.lines (by simp [Sw.lines])
 have zg:=blk_lt (row_blk h.lines).2.choose_spec.1
 have i1 : (0 : Int) < (S.cs.length : Int) + 1:=by omega
 have hln:=len_chan0
 have hcp:=cap_chan0
 have HH:=Lib.hid h
 clear h h0 ht
 go_enter Tryd.func66, Tryd.ntmps66
 go_upto_region 1 with fail
 go_region
 go_wp2_with (go_at_call 96; refine (isEnded_nil (HH.out.below (below_drew (below_al (Below.refl _ _) _)))).mono ?_; rintro e w1 ⟨rfl,rfl⟩)
 go_ret
 exact ⟨rfl,below_drew (below_al (Below.refl _ _) _)⟩
set_option maxRecDepth 20000 in
set_option maxHeartbeats 2000000 in
theorem ready_take_held {w : World} {base : Nat} {S : Sw} {ls : List Ln} (h : SwOk w base S ls) (hw : base <= w.heap.size) {d : DeedD} {i c : Nat} {l : Ln} (hc : S.cs[i]? = some c) (hl : ls[i + 1]? = some l) (h0 : d.a = (i : Int) + 1) (ht : d.act.toList = takeA) (hh : 0 < l.held.length) :
  Calls Tryd.prog 66 #[.pointer (some ⟨S.sp,0,none⟩),.agg #[.string d.act,.int .i64 d.a,.int .i64 d.b]] w λ e w' => e = .returned (.chan (some c)) /\ Below w.heap.size w w':=by
 obtain ⟨s,x,y⟩:=d
 have hx : x = (i : Int) + 1:=h0
 subst hx
 have h2:=str_is ht
 unfold takeA at h2
 have h3 : (s.toList == [112,117,116]) = false:=by rw [show s.toList = takeA from ht]; decide
 have ec:=blk_cell h.st
 have zs:=blk_lt h.st
 have eg:=row_cells (j:=i + 1) (v:=.chan (some c)) h.lines (by simp [Sw.lines,hc])
 have zg:=blk_lt (row_blk h.lines).2.choose_spec.1
 have hic:=(List.getElem?_eq_some_iff.1 hc).1
 have i0 : (0 : Int) <= (i : Int) + 1:=by omega
 have i1 : (i : Int) + 1 < (S.cs.length : Int) + 1:=by omega
 obtain ⟨b1,b2,s0,r0,hch⟩:=h.chans i c l hc hl
 have hch2 : ((w.alloc (.cells #[.string s,.int .i64 ((i : Int) + 1),.int .i64 y] 34)).drew).heap[c]? = some (.chan l.room.toNat (ints l.held).toArray l.ended s0 r0 false):=blk_drew (blk_alloc hch _)
 have hsz : (ints l.held).toArray.size = l.held.length:=by simp [ints]
 have hln:=len_chan hch2
 rw [hsz] at hln
 have hcp:=cap_chan hch2
 have HH:=Lib.hid (And.intro h (And.intro hc hl))
 generalize l.held.length = hn at *
 generalize l.room.toNat = rn at *
 clear h hl h0 ht hc hch hch2 hsz
 go_enter Tryd.func66, Tryd.ntmps66
 go_upto_region 1 with fail
 go_region
 go_wp2_with (go_at_call 96; refine (isEnded_any (HH.out.1.below (below_drew (below_al (Below.refl _ _) _))) HH.out.2.1 HH.out.2.2).mono ?_; rintro e w1 ⟨rfl,rfl⟩; skip)
 go_ret
 exact ⟨rfl,below_drew (below_al (Below.refl _ _) _)⟩
set_option maxRecDepth 20000 in
set_option maxHeartbeats 2000000 in
theorem ready_take_ended {w : World} {base : Nat} {S : Sw} {ls : List Ln} (h : SwOk w base S ls) (hw : base <= w.heap.size) {d : DeedD} {i c : Nat} {l : Ln} (hc : S.cs[i]? = some c) (hl : ls[i + 1]? = some l) (h0 : d.a = (i : Int) + 1) (ht : d.act.toList = takeA) (hh : l.held.length = 0) (he : l.ended = true) :
  Calls Tryd.prog 66 #[.pointer (some ⟨S.sp,0,none⟩),.agg #[.string d.act,.int .i64 d.a,.int .i64 d.b]] w λ e w' => e = .returned (.chan (some c)) /\ Below w.heap.size w w':=by
 obtain ⟨s,x,y⟩:=d
 have hx : x = (i : Int) + 1:=h0
 subst hx
 have h2:=str_is ht
 unfold takeA at h2
 have h3 : (s.toList == [112,117,116]) = false:=by rw [show s.toList = takeA from ht]; decide
 have ec:=blk_cell h.st
 have zs:=blk_lt h.st
 have eg:=row_cells (j:=i + 1) (v:=.chan (some c)) h.lines (by simp [Sw.lines,hc])
 have zg:=blk_lt (row_blk h.lines).2.choose_spec.1
 have hic:=(List.getElem?_eq_some_iff.1 hc).1
 have i0 : (0 : Int) <= (i : Int) + 1:=by omega
 have i1 : (i : Int) + 1 < (S.cs.length : Int) + 1:=by omega
 obtain ⟨b1,b2,s0,r0,hch⟩:=h.chans i c l hc hl
 have hch2 : ((w.alloc (.cells #[.string s,.int .i64 ((i : Int) + 1),.int .i64 y] 34)).drew).heap[c]? = some (.chan l.room.toNat (ints l.held).toArray l.ended s0 r0 false):=blk_drew (blk_alloc hch _)
 have hsz : (ints l.held).toArray.size = l.held.length:=by simp [ints]
 have hln:=len_chan hch2
 rw [hsz] at hln
 have hcp:=cap_chan hch2
 have HE:=Lib.hid he
 clear he
 rw [hh] at hln
 have HH:=Lib.hid (And.intro h (And.intro hc hl))
 generalize l.held.length = hn at *
 generalize l.room.toNat = rn at *
 clear h hl h0 ht hc hch hch2 hsz
 go_enter Tryd.func66, Tryd.ntmps66
 go_upto_region 1 with fail
 go_region
 go_wp2_with (go_at_call 96; refine (isEnded_any (HH.out.1.below (below_drew (below_al (Below.refl _ _) _))) HH.out.2.1 HH.out.2.2).mono ?_; rintro e w1 ⟨rfl,rfl⟩; rw [HE.out])
 go_ret
 exact ⟨rfl,below_drew (below_al (Below.refl _ _) _)⟩
set_option maxRecDepth 20000 in
set_option maxHeartbeats 2000000 in
theorem ready_take_not {w : World} {base : Nat} {S : Sw} {ls : List Ln} (h : SwOk w base S ls) (hw : base <= w.heap.size) {d : DeedD} {i c : Nat} {l : Ln} (hc : S.cs[i]? = some c) (hl : ls[i + 1]? = some l) (h0 : d.a = (i : Int) + 1) (ht : d.act.toList = takeA) (hh : l.held.length = 0) (he : l.ended = false) :
  Calls Tryd.prog 66 #[.pointer (some ⟨S.sp,0,none⟩),.agg #[.string d.act,.int .i64 d.a,.int .i64 d.b]] w λ e w' => e = .returned (.chan none) /\ Below w.heap.size w w':=by
 obtain ⟨s,x,y⟩:=d
 have hx : x = (i : Int) + 1:=h0
 subst hx
 have h2:=str_is ht
 unfold takeA at h2
 have h3 : (s.toList == [112,117,116]) = false:=by rw [show s.toList = takeA from ht]; decide
 have ec:=blk_cell h.st
 have zs:=blk_lt h.st
 have eg:=row_cells (j:=i + 1) (v:=.chan (some c)) h.lines (by simp [Sw.lines,hc])
 have zg:=blk_lt (row_blk h.lines).2.choose_spec.1
 have hic:=(List.getElem?_eq_some_iff.1 hc).1
 have i0 : (0 : Int) <= (i : Int) + 1:=by omega
 have i1 : (i : Int) + 1 < (S.cs.length : Int) + 1:=by omega
 obtain ⟨b1,b2,s0,r0,hch⟩:=h.chans i c l hc hl
 have hch2 : ((w.alloc (.cells #[.string s,.int .i64 ((i : Int) + 1),.int .i64 y] 34)).drew).heap[c]? = some (.chan l.room.toNat (ints l.held).toArray l.ended s0 r0 false):=blk_drew (blk_alloc hch _)
 have hsz : (ints l.held).toArray.size = l.held.length:=by simp [ints]
 have hln:=len_chan hch2
 rw [hsz] at hln
 have hcp:=cap_chan hch2
 have HE:=Lib.hid he
 clear he
 rw [hh] at hln
 have HH:=Lib.hid (And.intro h (And.intro hc hl))
 generalize l.held.length = hn at *
 generalize l.room.toNat = rn at *
 clear h hl h0 ht hc hch hch2 hsz
 go_enter Tryd.func66, Tryd.ntmps66
 go_upto_region 1 with fail
 go_region
 go_wp2_with (go_at_call 96; refine (isEnded_any (HH.out.1.below (below_drew (below_al (Below.refl _ _) _))) HH.out.2.1 HH.out.2.2).mono ?_; rintro e w1 ⟨rfl,rfl⟩; rw [HE.out])
 go_ret
 exact ⟨rfl,below_drew (below_al (Below.refl _ _) _)⟩
set_option maxRecDepth 20000 in
set_option maxHeartbeats 2000000 in
theorem ready_put_ended {w : World} {base : Nat} {S : Sw} {ls : List Ln} (h : SwOk w base S ls) (hw : base <= w.heap.size) {d : DeedD} {i c : Nat} {l : Ln} (hc : S.cs[i]? = some c) (hl : ls[i + 1]? = some l) (h0 : d.a = (i : Int) + 1) (ht : d.act.toList = putA) (he : l.ended = true) :
  Calls Tryd.prog 66 #[.pointer (some ⟨S.sp,0,none⟩),.agg #[.string d.act,.int .i64 d.a,.int .i64 d.b]] w λ e w' => e = .returned (.chan none) /\ Below w.heap.size w w':=by
 obtain ⟨s,x,y⟩:=d
 have hx : x = (i : Int) + 1:=h0
 subst hx
 have h2 : (s.toList == [116,97,107,101]) = false:=by rw [show s.toList = putA from ht]; decide
 have h3:=str_is ht
 unfold putA at h3
 have ec:=blk_cell h.st
 have zs:=blk_lt h.st
 have eg:=row_cells (j:=i + 1) (v:=.chan (some c)) h.lines (by simp [Sw.lines,hc])
 have zg:=blk_lt (row_blk h.lines).2.choose_spec.1
 have hic:=(List.getElem?_eq_some_iff.1 hc).1
 have i0 : (0 : Int) <= (i : Int) + 1:=by omega
 have i1 : (i : Int) + 1 < (S.cs.length : Int) + 1:=by omega
 obtain ⟨b1,b2,s0,r0,hch⟩:=h.chans i c l hc hl
 have hch2 : ((w.alloc (.cells #[.string s,.int .i64 ((i : Int) + 1),.int .i64 y] 34)).drew).heap[c]? = some (.chan l.room.toNat (ints l.held).toArray l.ended s0 r0 false):=blk_drew (blk_alloc hch _)
 have hsz : (ints l.held).toArray.size = l.held.length:=by simp [ints]
 have hln:=len_chan hch2
 rw [hsz] at hln
 have hcp:=cap_chan hch2
 have HE:=Lib.hid he
 clear he
 have HH:=Lib.hid (And.intro h (And.intro hc hl))
 generalize l.held.length = hn at *
 generalize l.room.toNat = rn at *
 clear h hl h0 ht hc hch hch2 hsz
 go_enter Tryd.func66, Tryd.ntmps66
 go_upto_region 1 with fail
 go_region
 go_wp2_with (go_at_call 96; refine (isEnded_any (HH.out.1.below (below_drew (below_al (Below.refl _ _) _))) HH.out.2.1 HH.out.2.2).mono ?_; rintro e w1 ⟨rfl,rfl⟩; rw [HE.out])
 go_ret
 exact ⟨rfl,below_drew (below_al (Below.refl _ _) _)⟩
set_option maxRecDepth 20000 in
set_option maxHeartbeats 2000000 in
theorem ready_put_room {w : World} {base : Nat} {S : Sw} {ls : List Ln} (h : SwOk w base S ls) (hw : base <= w.heap.size) {d : DeedD} {i c : Nat} {l : Ln} (hc : S.cs[i]? = some c) (hl : ls[i + 1]? = some l) (h0 : d.a = (i : Int) + 1) (ht : d.act.toList = putA) (he : l.ended = false) (hh : l.held.length < l.room.toNat) :
  Calls Tryd.prog 66 #[.pointer (some ⟨S.sp,0,none⟩),.agg #[.string d.act,.int .i64 d.a,.int .i64 d.b]] w λ e w' => e = .returned (.chan (some c)) /\ Below w.heap.size w w':=by
 obtain ⟨s,x,y⟩:=d
 have hx : x = (i : Int) + 1:=h0
 subst hx
 have h2 : (s.toList == [116,97,107,101]) = false:=by rw [show s.toList = putA from ht]; decide
 have h3:=str_is ht
 unfold putA at h3
 have ec:=blk_cell h.st
 have zs:=blk_lt h.st
 have eg:=row_cells (j:=i + 1) (v:=.chan (some c)) h.lines (by simp [Sw.lines,hc])
 have zg:=blk_lt (row_blk h.lines).2.choose_spec.1
 have hic:=(List.getElem?_eq_some_iff.1 hc).1
 have i0 : (0 : Int) <= (i : Int) + 1:=by omega
 have i1 : (i : Int) + 1 < (S.cs.length : Int) + 1:=by omega
 obtain ⟨b1,b2,s0,r0,hch⟩:=h.chans i c l hc hl
 have hch2 : ((w.alloc (.cells #[.string s,.int .i64 ((i : Int) + 1),.int .i64 y] 34)).drew).heap[c]? = some (.chan l.room.toNat (ints l.held).toArray l.ended s0 r0 false):=blk_drew (blk_alloc hch _)
 have hsz : (ints l.held).toArray.size = l.held.length:=by simp [ints]
 have hln:=len_chan hch2
 rw [hsz] at hln
 have hcp:=cap_chan hch2
 have HE:=Lib.hid he
 clear he
 have HH:=Lib.hid (And.intro h (And.intro hc hl))
 generalize l.held.length = hn at *
 generalize l.room.toNat = rn at *
 clear h hl h0 ht hc hch hch2 hsz
 go_enter Tryd.func66, Tryd.ntmps66
 go_upto_region 1 with fail
 go_region
 go_wp2_with (go_at_call 96; refine (isEnded_any (HH.out.1.below (below_drew (below_al (Below.refl _ _) _))) HH.out.2.1 HH.out.2.2).mono ?_; rintro e w1 ⟨rfl,rfl⟩; rw [HE.out])
 go_ret
 exact ⟨rfl,below_drew (below_al (Below.refl _ _) _)⟩
set_option maxRecDepth 20000 in
set_option maxHeartbeats 2000000 in
theorem ready_put_full {w : World} {base : Nat} {S : Sw} {ls : List Ln} (h : SwOk w base S ls) (hw : base <= w.heap.size) {d : DeedD} {i c : Nat} {l : Ln} (hc : S.cs[i]? = some c) (hl : ls[i + 1]? = some l) (h0 : d.a = (i : Int) + 1) (ht : d.act.toList = putA) (he : l.ended = false) (hh : ¬ l.held.length < l.room.toNat) :
  Calls Tryd.prog 66 #[.pointer (some ⟨S.sp,0,none⟩),.agg #[.string d.act,.int .i64 d.a,.int .i64 d.b]] w λ e w' => e = .returned (.chan none) /\ Below w.heap.size w w':=by
 obtain ⟨s,x,y⟩:=d
 have hx : x = (i : Int) + 1:=h0
 subst hx
 have h2 : (s.toList == [116,97,107,101]) = false:=by rw [show s.toList = putA from ht]; decide
 have h3:=str_is ht
 unfold putA at h3
 have ec:=blk_cell h.st
 have zs:=blk_lt h.st
 have eg:=row_cells (j:=i + 1) (v:=.chan (some c)) h.lines (by simp [Sw.lines,hc])
 have zg:=blk_lt (row_blk h.lines).2.choose_spec.1
 have hic:=(List.getElem?_eq_some_iff.1 hc).1
 have i0 : (0 : Int) <= (i : Int) + 1:=by omega
 have i1 : (i : Int) + 1 < (S.cs.length : Int) + 1:=by omega
 obtain ⟨b1,b2,s0,r0,hch⟩:=h.chans i c l hc hl
 have hch2 : ((w.alloc (.cells #[.string s,.int .i64 ((i : Int) + 1),.int .i64 y] 34)).drew).heap[c]? = some (.chan l.room.toNat (ints l.held).toArray l.ended s0 r0 false):=blk_drew (blk_alloc hch _)
 have hsz : (ints l.held).toArray.size = l.held.length:=by simp [ints]
 have hln:=len_chan hch2
 rw [hsz] at hln
 have hcp:=cap_chan hch2
 have HE:=Lib.hid he
 clear he
 have HH:=Lib.hid (And.intro h (And.intro hc hl))
 generalize l.held.length = hn at *
 generalize l.room.toNat = rn at *
 clear h hl h0 ht hc hch hch2 hsz
 go_enter Tryd.func66, Tryd.ntmps66
 go_upto_region 1 with fail
 go_region
 go_wp2_with (go_at_call 96; refine (isEnded_any (HH.out.1.below (below_drew (below_al (Below.refl _ _) _))) HH.out.2.1 HH.out.2.2).mono ?_; rintro e w1 ⟨rfl,rfl⟩; rw [HE.out])
 go_ret
 exact ⟨rfl,below_drew (below_al (Below.refl _ _) _)⟩
end Go.Proofs.YtkfafknliihabaaDoor
namespace Go.Proofs.YtkfafknliihabaaDoor
open Go.RowKit Go.Conc
def d00 : DeedD:=⟨⟨#[]⟩,0,0⟩
def l00 : Ln:=⟨0,[],false,[]⟩
def readyUpto (k : Nat) (ls : List Ln) (ts : List DeedD) : List Int:=((List.range k).filter λ i => readyF (ls.getD (ts.getD i d00).a.toNat l00) (ts.getD i d00)).map λ i : Nat => (i : Int)
theorem readyUpto_succ {k : Nat} {ls : List Ln} {ts : List DeedD} {d : DeedD} {l : Ln} (hd : ts[k]? = some d) (hl : ls[d.a.toNat]? = some l) : readyUpto (k + 1) ls ts = readyUpto k ls ts ++ (if readyF l d then [(k : Int)] else []):=by
 unfold readyUpto
 have e1 : ts.getD k d00 = d:=by rw [List.getD_eq_getElem?_getD,hd]; rfl
 have e2 : ls.getD d.a.toNat l00 = l:=by rw [List.getD_eq_getElem?_getD,hl]; rfl
 rw [List.range_succ,List.filter_append,List.map_append]
 congr 1
 simp only [List.filter_cons,List.filter_nil,e1,e2]
 cases readyF l d <;> simp
theorem readyUpto_len (k : Nat) (ls : List Ln) (ts : List DeedD) : (readyUpto k ls ts).length <= k:=by
 unfold readyUpto
 rw [List.length_map]
 exact Nat.le_trans (List.length_filter_le _ _) (by simp)
theorem readyLine_any {w : World} {base : Nat} {S : Sw} {ls : List Ln} (h : SwOk w base S ls) (hw : base <= w.heap.size) {d : DeedD} {l : Ln} (h0 : 0 <= d.a) (hl : ls[d.a.toNat]? = some l) (hact : (d.act.toList == putA || d.act.toList == takeA) = true) :
  Calls Tryd.prog 66 #[.pointer (some ⟨S.sp,0,none⟩),.agg #[.string d.act,.int .i64 d.a,.int .i64 d.b]] w λ e w' => ∃ o,e = .returned (.chan o) /\ o.isSome = readyF l d /\ Below w.heap.size w w':=by
 have hact' : d.act.toList = putA \/ d.act.toList = takeA:=by simpa using hact
 by_cases hz : d.a = 0
 ·have hF : readyF l d = false:=by unfold readyF; rw [if_pos hz]
  rw [hF]
  rcases hact' with ha | ha
  ·exact (ready0_put h hw hz ha).mono (by rintro e w' ⟨rfl,hb⟩; exact ⟨none,rfl,rfl,hb⟩)
  ·exact (ready0_take h hw hz ha).mono (by rintro e w' ⟨rfl,hb⟩; exact ⟨none,rfl,rfl,hb⟩)
 ·obtain ⟨i,hi⟩ : ∃ i : Nat,d.a = (i : Int) + 1:=⟨(d.a - 1).toNat,by omega⟩
  have hi' : d.a.toNat = i + 1:=by omega
  rw [hi'] at hl
  have hlen:=(List.getElem?_eq_some_iff.1 hl).1
  obtain ⟨c,hc⟩ : ∃ c,S.cs[i]? = some c:=⟨_,List.getElem?_eq_getElem (by have:=h.len; omega)⟩
  obtain ⟨_,hr,_⟩:=h.chans i c l hc hl
  unfold readyF
  rw [if_neg hz]
  rcases hact' with ha | ha
  ·have hnt : ¬ d.act.toList = takeA:=by rw [ha]; decide
   rw [if_neg hnt]
   cases he : l.ended with
   | true => exact (ready_put_ended h hw hc hl hi ha he).mono (by rintro e w' ⟨rfl,hb⟩; exact ⟨none,rfl,rfl,hb⟩)
   | false =>
    by_cases hh : l.held.length < l.room.toNat
    ·exact (ready_put_room h hw hc hl hi ha he hh).mono (by rintro e w' ⟨rfl,hb⟩; exact ⟨some c,rfl,by simp; omega,hb⟩)
    ·exact (ready_put_full h hw hc hl hi ha he hh).mono (by rintro e w' ⟨rfl,hb⟩; exact ⟨none,rfl,by simp; omega,hb⟩)
  ·rw [if_pos ha]
   by_cases hh : 0 < l.held.length
   ·exact (ready_take_held h hw hc hl hi ha hh).mono (by rintro e w' ⟨rfl,hb⟩; exact ⟨some c,rfl,by simp [hh],hb⟩)
   ·have hh0 : l.held.length = 0:=by omega
    cases he : l.ended with
    | true => exact (ready_take_ended h hw hc hl hi ha hh0 he).mono (by rintro e w' ⟨rfl,hb⟩; exact ⟨some c,rfl,by simp,hb⟩)
    | false => exact (ready_take_not h hw hc hl hi ha hh0 he).mono (by rintro e w' ⟨rfl,hb⟩; exact ⟨none,rfl,by simp [hh],hb⟩)
theorem neq_chanO (o : Option Nat) (W : World) : (binOp .neq 113 (.chan o) (.chan none)).run Tryd.prog W = .ok (.bool o.isSome) W:=by
 cases o <;> simp [binOp,run_equal_chan und_chan]
theorem ent_of {lines : Int} {ts : List DeedD} (h : tableB ts lines = true) : (1 <= ts.length /\ ts.length <= 8) /\ ∀ d ∈ ts,deedP lines d /\ (d.act.toList == putA || d.act.toList == takeA) = true:=by
 unfold tableB at h
 simp only [Bool.and_eq_true,List.all_eq_true] at h
 refine ⟨?_,λ d hd => ?_⟩
 ·have:=h.2; simp [inB] at this; omega
 ·have:=h.1.1 d hd
  unfold entB at this
  simp only [Bool.and_eq_true] at this
  exact ⟨(validB_of _ _).1 this.1.2,this.2⟩
set_option maxRecDepth 20000 in
set_option maxHeartbeats 4000000 in
theorem readyIn_any {w : World} {base : Nat} {S : Sw} {ls : List Ln} {rooms : List Int} {ts : List DeedD} (h : SwOk w base S ls) (hw : base <= w.heap.size) (hr : ls.length = rooms.length + 1) (ht : tableB ts rooms.length = true) {lo hi n c : Nat} {A : Option Addr} (h2 : Slc w lo hi 3 A n c (deeds ts)) :
  Calls Tryd.prog 42 #[.pointer (some ⟨S.sp,0,none⟩),.slice A n c] w (NewV 3 1 w (ints (readyUpto ts.length ls ts))):=by
 obtain ⟨⟨t1,t8⟩,hts⟩:=ent_of ht
 have hlm:=h2.deedLen
 have hn8 : n <= 8:=by omega
 have HT:=Lib.hid (And.intro hts hr)
 have HLM:=Lib.hid hlm
 have HSW:=Lib.hid h
 obtain ⟨i0,hi0,hz0,hz1,hz2⟩:=info_parts info_int
 have HI:=Lib.hid (And.intro hi0 (And.intro hz0 (And.intro hz1 hz2)))
 clear hi0 hz0 hz1 hz2 h hlm hts hr ht t1 t8
 go_enter Tryd.func42, Tryd.ntmps42
 go_wp2
 go_loopw [5,11] (λ v i wr => ∃ (k g cO : Nat),k <= n /\ i = .int .i64 k /\ v = .slice (some ⟨g,0,none⟩) (readyUpto k ls ts).length cO /\ wr.ownsRow w.heap.size 3 1 (.slice (some ⟨g,0,none⟩) (readyUpto k ls ts).length cO) (readyUpto k ls ts).length (ints (readyUpto k ls ts)) /\ Below w.heap.size w wr) (λ _ i _ => n - (intOf i).toNat)
 case atStart => exact ⟨0,w.heap.size,0,Nat.zero_le _,rfl,rfl,row_empty (Nat.le_refl _) (heap_alloc_new _ _),below_al (Below.refl _ _) _⟩
 case round =>
  obtain ⟨k,g,cO,hk,rfl,rfl,hown,B⟩:=hrel
  have HOW:=Lib.hid (And.intro hown B)
  clear hown
  by_cases hlt : k < n
  ·obtain ⟨b,off,d,hA,_,_,h3,hxk,hv0,hv1,hv2⟩:=(h2.below B).deedAt hlt
   subst hA
   obtain ⟨hp,hact⟩:=HT.out.1 d (List.mem_of_getElem? hxk)
   have hLt : d.a.toNat < ls.length:=by
    rw [HT.out.2]
    have:=hp.2.1
    have:=hp.2.2.1
    omega
   obtain ⟨l,hl⟩ : ∃ l,ls[d.a.toNat]? = some l:=⟨_,List.getElem?_eq_getElem hLt⟩
   have HL:=Lib.hid (readyUpto_succ hxk hl)
   have HD:=Lib.hid (And.intro hp.2.1 (And.intro hl hact))
   have hlen:=readyUpto_len k ls ts
   have i0' : (0 : Int) <= (k : Int):=by omega
   have i1 : (k : Int) < (n : Int):=by omega
   have hsw:=Lib.hid (HSW.out.below B)
   have zw:=B.size
   have hq:=neq_chanO
   clear hxk hl hp hact hLt h2
   generalize hU : readyUpto k ls ts = U at *
   have HU:=Lib.hid hU
   clear hU
   obtain ⟨t,ht⟩ : ∃ t,t = readyF l d:=⟨_,rfl⟩
   rw [<- ht] at HL
   have HTE:=Lib.hid ht
   clear ht
   obtain ⟨s,x,y⟩:=d
   have hwz : base <= wr.heap.size:=Nat.le_trans hw zw
   have CALL : ∀ o,Calls Tryd.prog 66 #[.pointer (some ⟨S.sp,0,none⟩),.agg #[.string s,.int .i64 x,.int .i64 y]] (wr.alloc o) λ e w' => ∃ o',e = .returned (.chan o') /\ o'.isSome = t /\ Below (wr.alloc o).heap.size (wr.alloc o) w':=λ o => by
    have:=readyLine_any (d:=⟨s,x,y⟩) (hsw.out.below (below_al (Below.refl _ _) o)) (by simp; omega) HD.out.1 HD.out.2.1 HD.out.2.2
    rw [<- HTE.out] at this; exact this
   have HCALL:=Lib.hid CALL
   clear CALL
   cases t with
   | false =>
    go_wp2_with (go_at_call 66; refine (HCALL.out _).mono ?_; rintro e w1 ⟨o,rfl,ho,b1⟩; have hq1:=neq_chanO o; rw [ho] at hq1)
    go_roundw
    case rel =>
     have bb:=below_step (below_al (Below.refl wr.heap.size wr) _) b1
     exact ⟨k + 1,g,cO,by omega,by go_num,by rw [HL.out]; simp,by rw [HL.out]; simpa using row_below' HOW.out.1 bb,below_step HOW.out.2 bb⟩
    case measure => simp [intOf]; omega
   | true =>
    obtain ⟨hi0,hz0,hz1,hz2⟩:=HI.out
    have HHI:=Lib.hid hi0
    clear hi0
    go_wp2_with (first
     | (go_at_call 66; refine (HCALL.out _).mono ?_; rintro e w1 ⟨o,rfl,ho,b1⟩; have hq1:=neq_chanO o; rw [ho] at hq1; have bb:=below_step (below_al (Below.refl wr.heap.size wr) _) b1; have zb:=bb.size; have HBB:=Lib.hid bb; clear bb b1)
     | (at_builtin; refine wpList_append_lies _ rfl (.tmp 20) (.tmp 22) 23 rfl w.heap.size 3 i0 (.int .i64 0) 1 8 Tryd.underlying23 HHI.out hz0 hz1 hz2 rfl (by decide) (.slice (some ⟨g,0,none⟩) U.length cO) U.length _ rfl (row_below' (row_below' HOW.out.1 HBB.out) (below_al (Below.refl _ _) _)) ⟨_,0,none⟩ 1 1 [.int .i64 k] rfl rfl (cell_one_new _ _ _) (by simp [Value.oneCell']) (by decide) (by unfold maxLen; omega) (by omega) (by simp; omega) _ rfl ?_; intro g2 c2n w4 hown2 hgr2 hat2 hlt2; have HO2:=Lib.hid hown2; have HG2:=Lib.hid hgr2; have HAT:=Lib.hid hat2; clear hown2 hgr2 hat2))
    go_roundw
    case rel =>
     have hgr:=HG2.out
     refine ⟨k + 1,g2,c2n,by omega,by go_num,by rw [HL.out]; simp,?_,?_⟩
     ·rw [HL.out]; simpa [ints] using HO2.out
     ·exact (below_al (below_step HOW.out.2 HBB.out) _).trans (row_below (row_below' HOW.out.1 HBB.out) hgr (by simp; omega))
    case measure => simp [intOf]; omega
  ·have e : k = n:=by omega
   subst e
   go_wp2
   go_ret
   obtain ⟨A',c',e',o⟩:=ownV_of_row HOW.out.1 (by decide)
   injection e' with e1 e2 e3
   subst e1 e3
   rw [HLM.out]
   exact ⟨_,_,_,rfl,o,HOW.out.2⟩
end Go.Proofs.YtkfafknliihabaaDoor
namespace Go.Proofs.YtkfafknliihabaaDoor
open Go.RowKit Go.Conc
def readyEF (rooms : List Int) (ds ts : List DeedD) : List Int × Bool:=if choiceB rooms ds ts then (readyUpto ts.length (runF rooms ds).1 ts,true) else ([],false)
set_option maxRecDepth 20000 in
set_option maxHeartbeats 4000000 in
theorem spec_l5Ready {w : World} {gl N cl : Nat} {vs : List LnV} {v : LnV} {l : Ln} {d : DeedD} {P : Nat -> Prop} (hrow : w.ownsRow 0 102 4 (.slice (some ⟨gl,0,none⟩) N cl) N (lnCells vs)) (hv : vs[d.a.toNat]? = some v) (h0 : 0 <= d.a) (ok : LnOk w P v l) (hsm : l.held.length <= 1000) (hact : (d.act.toList == putA || d.act.toList == takeA) = true) :
  Calls Tryd.prog 93 #[.slice (some ⟨gl,0,none⟩) N cl,.agg #[.string d.act,.int .i64 d.a,.int .i64 d.b]] w λ e w' => e = .returned (.bool (readyF l d)) /\ Below w.heap.size w w':=by
 have hlen:=lns_len hrow
 have hL : d.a.toNat < N:=by have:=(List.getElem?_eq_some_iff.1 hv).1; omega
 obtain ⟨s,x,y⟩:=d
 obtain ⟨L,rfl⟩:=Int.eq_ofNat_of_zero_le h0
 have hnh:=ok.held.length
 have hro:=ok.room
 have hen:=ok.ended
 obtain ⟨c0,c1,c2,c3⟩:=lnCells_get hv
 have k0:=row_cells hrow c0
 have k1:=row_cells hrow c1
 have k2:=row_cells hrow c2
 have k3:=row_cells hrow c3
 simp only [Int.toNat_natCast,Nat.add_zero] at k0 k1 k2 k3 hL
 obtain ⟨_,cs,kgl,_⟩:=row_blk hrow
 have zg:=blk_lt kgl
 obtain ⟨vr,vA,vn,vc,ve,vAT,vnT,vcT⟩:=v
 simp only at hro hen k0 k1 k2 k3 hnh
 subst hro hen
 have hvn : vn <= 1000:=by omega
 have hact' : (s.toList == [112,117,116]) = true \/ (s.toList == [116,97,107,101]) = true:=by simpa [putA,takeA] using hact
 have hF : readyF l ⟨s,L,y⟩ = if (L : Int) = 0 then false else if s.toList = takeA then (decide (0 < vn) || l.ended) else !l.ended && decide ((vn : Int) < l.room):=by unfold readyF; rw [hnh]
 rw [hF]
 have i1 : (L : Int) < (N : Int):=by omega
 obtain ⟨t,ht⟩ : ∃ t,t = l.ended:=⟨_,rfl⟩
 rw [<- ht] at k2 ⊢
 generalize l.room = R at *
 clear hF hrow hv ok hact c0 c1 c2 c3 hlen hnh ht
 have hput : s.toList = [112,117,116] -> ¬ s.toList = [116,97,107,101]:=by intro e; rw [e]; decide
 by_cases hz : L = 0
 ·subst hz
  go_enter Tryd.func93, Tryd.ntmps93
  go_wp2
  go_ret
  exact ⟨rfl,below_al (below_al (Below.refl _ _) _) _⟩
 ·have hz' : ¬ (L : Int) = 0:=by omega
  rcases hact' with ha | ha
  ·have hnt : ¬ s.toList = takeA:=by
    have : s.toList = putA:=by simpa [putA] using ha
    rw [this]; decide
   have hnt' : (s.toList == [116,97,107,101]) = false:=by simpa [takeA] using hnt
   rw [if_neg hz',if_neg hnt]
   cases t
   all_goals
    go_enter Tryd.func93, Tryd.ntmps93
    go_wp2
    go_ret
    exact ⟨ret_bool (by simp),below_al (below_al (Below.refl _ _) _) _⟩
  ·have hnt : s.toList = takeA:=by simpa [takeA] using ha
   rw [if_neg hz',if_pos hnt]
   by_cases hn0 : 0 < vn
   all_goals
    go_enter Tryd.func93, Tryd.ntmps93
    go_wp2
    go_ret
    exact ⟨ret_bool (by simp_all),below_al (below_al (Below.refl _ _) _) _⟩
end Go.Proofs.YtkfafknliihabaaDoor
namespace Go.Proofs.YtkfafknliihabaaDoor
open Go.RowKit Go.Conc
set_option maxRecDepth 20000 in
set_option maxHeartbeats 4000000 in
theorem spec_l5All {w w0 : World} {gl cl go co N k0 : Nat} {vs : List LnV} {s : List Ln × List (List UInt8)} {lines : Int} {ts : List DeedD} (St : RunSt w0 w gl cl go co N k0 vs s) (hN : lines + 1 = N) (hsm : ∀ l ∈ s.1,l.held.length <= 1000) (ht : tableB ts lines = true) {lo hi n c : Nat} {A : Option Addr} (h2 : Slc w lo hi 3 A n c (deeds ts)) :
  Calls Tryd.prog 61 #[.slice (some ⟨gl,0,none⟩) N cl,.slice A n c] w (NewV 3 1 w (ints (readyUpto ts.length s.1 ts))):=by
 obtain ⟨⟨t1,t8⟩,hts⟩:=ent_of ht
 have hlm:=h2.deedLen
 have hn8 : n <= 8:=by omega
 have HT:=Lib.hid (And.intro hts hsm)
 have HLM:=Lib.hid hlm
 have HSW:=Lib.hid St
 obtain ⟨i0,hi0,hz0,hz1,hz2⟩:=info_parts info_int
 have HI:=Lib.hid (And.intro hi0 (And.intro hz0 (And.intro hz1 hz2)))
 clear hi0 hz0 hz1 hz2 St hlm hts hsm ht t1 t8
 go_enter Tryd.func61, Tryd.ntmps61
 go_wp2
 go_loopw [5,6] (λ v i wr => ∃ (k g cO : Nat),k <= n /\ i = .int .i64 k /\ v = .slice (some ⟨g,0,none⟩) (readyUpto k s.1 ts).length cO /\ wr.ownsRow w.heap.size 3 1 (.slice (some ⟨g,0,none⟩) (readyUpto k s.1 ts).length cO) (readyUpto k s.1 ts).length (ints (readyUpto k s.1 ts)) /\ Below w.heap.size w wr) (λ _ i _ => n - (intOf i).toNat)
 case atStart => exact ⟨0,w.heap.size,0,Nat.zero_le _,rfl,rfl,row_empty (Nat.le_refl _) (heap_alloc_new _ _),below_al (Below.refl _ _) _⟩
 case round =>
  obtain ⟨k,g,cO,hk,rfl,rfl,hown,B⟩:=hrel
  have HOW:=Lib.hid (And.intro hown B)
  clear hown
  by_cases hlt : k < n
  ·obtain ⟨b,off,d,hA,_,_,h3,hxk,hv0,hv1,hv2⟩:=(h2.below B).deedAt hlt
   subst hA
   obtain ⟨hp,hact⟩:=HT.out.1 d (List.mem_of_getElem? hxk)
   have hLt : d.a.toNat < N:=by
    have:=hp.2.1
    have:=hp.2.2.1
    omega
   obtain ⟨l,hl⟩ : ∃ l,s.1[d.a.toNat]? = some l:=⟨_,List.getElem?_eq_getElem (by rw [HSW.out.len]; exact hLt)⟩
   obtain ⟨v,hv⟩ : ∃ v,vs[d.a.toNat]? = some v:=⟨_,List.getElem?_eq_getElem (by rw [lns_len HSW.out.lines]; exact hLt)⟩
   have HL:=Lib.hid (readyUpto_succ hxk hl)
   have hlen:=readyUpto_len k s.1 ts
   have i0' : (0 : Int) <= (k : Int):=by omega
   have i1 : (k : Int) < (n : Int):=by omega
   have zw:=B.size
   obtain ⟨q1,csr,q2,q3,q4,q5,q6⟩:=row_blk HSW.out.lines
   have hrow : wr.ownsRow 0 102 4 (.slice (some ⟨gl,0,none⟩) N cl) N (lnCells vs):=⟨HSW.out.lines.1,.inr ⟨gl,cl,csr,rfl,Nat.zero_le _,(B.block _ (blk_lt q2)).trans q2,q3,q4,q5,q6⟩⟩
   have ok:=((HSW.out.lns _ v l hv hl).1).below B
   have CALL:=spec_l5Ready (d:=d) hrow hv hp.2.1 ok (HT.out.2 l (List.mem_of_getElem? hl)) hact
   have HCALL:=Lib.hid CALL
   clear CALL hxk hl hp hact hLt h2 hv ok hrow q1 q2 q3 q4 q5 q6
   generalize hU : readyUpto k s.1 ts = U at *
   have HU:=Lib.hid hU
   clear hU
   generalize hTE : readyF l d = t at *
   have HTE:=Lib.hid hTE
   clear hTE
   cases t with
   | false =>
    go_wp2_with (go_at_call 93; refine HCALL.out.mono ?_; rintro e w1 ⟨rfl,b1⟩)
    go_roundw
    case rel => exact ⟨k + 1,g,cO,by omega,by go_num,by rw [HL.out]; simp,by rw [HL.out]; simpa using row_below' HOW.out.1 b1,below_step HOW.out.2 b1⟩
    case measure => simp [intOf]; omega
   | true =>
    obtain ⟨hi0,hz0,hz1,hz2⟩:=HI.out
    have HHI:=Lib.hid hi0
    clear hi0
    go_wp2_with (first
     | (go_at_call 93; refine HCALL.out.mono ?_; rintro e w1 ⟨rfl,b1⟩; have zb:=b1.size; have HBB:=Lib.hid b1; clear b1)
     | (at_builtin; refine wpList_append_lies _ rfl (.tmp 20) (.tmp 22) 23 rfl w.heap.size 3 i0 (.int .i64 0) 1 8 Tryd.underlying23 HHI.out hz0 hz1 hz2 rfl (by decide) (.slice (some ⟨g,0,none⟩) U.length cO) U.length _ rfl (row_below' (row_below' HOW.out.1 HBB.out) (below_al (Below.refl _ _) _)) ⟨_,0,none⟩ 1 1 [.int .i64 k] rfl rfl (cell_one_new _ _ _) (by simp [Value.oneCell']) (by decide) (by unfold maxLen; omega) (by omega) (by simp; omega) _ rfl ?_; intro g2 c2n w4 hown2 hgr2 hat2 hlt2; have HO2:=Lib.hid hown2; have HG2:=Lib.hid hgr2; have HAT:=Lib.hid hat2; clear hown2 hgr2 hat2))
    go_roundw
    case rel =>
     have hgr:=HG2.out
     refine ⟨k + 1,g2,c2n,by omega,by go_num,by rw [HL.out]; simp,?_,?_⟩
     ·rw [HL.out]; simpa [ints] using HO2.out
     ·exact (below_al (below_step HOW.out.2 HBB.out) _).trans (row_below (row_below' HOW.out.1 HBB.out) hgr (by simp; omega))
    case measure => simp [intOf]; omega
  ·have e : k = n:=by omega
   subst e
   go_wp2
   go_ret
   obtain ⟨A',c',e',o⟩:=ownV_of_row HOW.out.1 (by decide)
   injection e' with e1 e2 e3
   subst e1 e3
   rw [HLM.out]
   exact ⟨_,_,_,rfl,o,HOW.out.2⟩
theorem choice_of {rooms : List Int} {ds ts : List DeedD} (h : choiceB rooms ds ts = true) : deedsB rooms ds = true /\ tableB ts rooms.length = true:=by
 unfold choiceB at h; simpa using h
set_option maxHeartbeats 4000000 in
theorem impl_ReadyEntries (lo hi n c lo2 hi2 m c2 lo3 hi3 q c3 : Nat) (A A2 A3 : Option Addr) (rooms : List Int) (ds ts : List DeedD) (w : World) (h : Slc w lo hi 1 A n c (ints rooms)) (h2 : Slc w lo2 hi2 3 A2 m c2 (deeds ds)) (h3 : Slc w lo3 hi3 3 A3 q c3 (deeds ts)) (hn : n <= 1048576) (hm : m <= 1048576) (hq : q <= 1048576) (ht : TabW w) :
  Calls Tryd.prog 17 #[.slice A n c,.slice A2 m c2,.slice A3 q c3] w (NewVB 3 1 w (ints (readyEF rooms ds ts).1) (readyEF rooms ds ts).2):=by
 have HT:=Lib.hid ht
 clear ht
 cases hd : choiceB rooms ds ts with
 | false =>
  have hF : readyEF rooms ds ts = ([],false):=by unfold readyEF; rw [hd]; rfl
  rw [hF]
  go_enter Tryd.func17, Tryd.ntmps17
  go_wp2_with (go_at_call 41; refine (impl_choiceValid _ _ _ _ _ _ _ _ _ _ _ _ _ _ _ rooms ds ts _ h h2 h3 hn hm hq).mono ?_; rintro e w1 ⟨rfl,b1⟩; rw [hd])
  go_ret2
  exact ⟨_,0,0,rfl,OwnV.nil _ _ _,b1⟩
 | true =>
  obtain ⟨hdb,htb⟩:=choice_of hd
  have hF : readyEF rooms ds ts = (readyUpto ts.length (runF rooms ds).1 ts,true):=by unfold readyEF; rw [hd]; rfl
  rw [hF]
  have HD:=Lib.hid (And.intro hd (And.intro hdb htb))
  have hrl:=Lib.hid (runF_len rooms ds).1
  clear hF hd hdb htb
  go_enter Tryd.func17, Tryd.ntmps17
  go_wp2_with (first
   | (go_at_call 41; refine (impl_choiceValid _ _ _ _ _ _ _ _ _ _ _ _ _ _ _ rooms ds ts _ h h2 h3 hn hm hq).mono ?_; rintro e w1 ⟨rfl,b1⟩; rw [HD.out.1]; have h1:=h.below b1; have h21:=h2.below b1; have h31:=h3.below b1; have HT1:=Lib.hid (HT.out.below b1))
   | (go_at_call 39; refine (new_from h1 HD.out.2.1).mono ?_; rintro e w2 ⟨S,rfl,hsw,hln,b2⟩)
   | (go_at_call 40; refine (doAll_from hsw b2 hln HD.out.2.1 h21 HT1.out).mono ?_; rintro e w3 ⟨AL,cL,rfl,o3,hsw3,b3⟩; have h33:=h31.below b3; have HSW:=Lib.hid hsw3; have HB3:=Lib.hid b3; clear hsw3 b3 o3)
   | (go_at_call 42; refine (readyIn_any HSW.out HB3.out.size hrl.out HD.out.2.2 h33).mono ?_; rintro e w4 ⟨A9,n9,c9,rfl,o9,b9⟩))
  go_ret2
  have z1:=b1.size
  have z3:=HB3.out.size
  exact ⟨_,_,_,rfl,o9.from (by omega),b1.trans ((HB3.out.mono z1).trans (b9.mono (by omega)))⟩
end Go.Proofs.YtkfafknliihabaaDoor
namespace Go.Tt
abbrev Pr:=Nat -> Nat -> Prop
def Pr.le (R R' : Pr) : Prop:=∀ a b,R a b -> R' a b
theorem Pr.le.refl (R : Pr) : R.le R:=λ _ _ h => h
theorem Pr.le.trans {R R' R'' : Pr} (h : R.le R') (h' : R'.le R'') : R.le R'':=λ a b x => h' a b (h a b x)
def Pr.add (R : Pr) (n n' : Nat) : Pr:=λ a b => R a b \/ (a = n /\ b = n')
theorem Pr.le_add (R : Pr) (n n' : Nat) : R.le (R.add n n'):=λ _ _ h => .inl h
inductive AdR (R : Pr) : Addr -> Addr -> Prop
 | mk {b b' o : Nat} {s : Option Nat} : R b b' -> AdR R ⟨b,o,s⟩ ⟨b',o,s⟩
inductive OaR (R : Pr) : Option Addr -> Option Addr -> Prop
 | none : OaR R none none
 | some {a a' : Addr} : AdR R a a' -> OaR R (some a) (some a')
inductive OnR (R : Pr) : Option Nat -> Option Nat -> Prop
 | none : OnR R none none
 | some {a a' : Nat} : R a a' -> OnR R (some a) (some a')
def Pr.or (R K : Pr) : Pr:=λ a b => R a b \/ K a b
theorem Pr.or_mono {R R' K : Pr} (h : R.le R') : (R.or K).le (R'.or K):=λ a b x => x.imp (h a b) id
def Hid : Value -> Prop
 | .agg _ | .tuple _ | .bool _ | .nilIface => False
 | _ => True
inductive VR (S : FuncId -> Prop) (K R : Pr) : Value -> Value -> Prop
 | bool (b : Bool) : VR S K R (.bool b) (.bool b)
 | int (k : IntKind) (n : Int) : VR S K R (.int k n) (.int k n)
 | string (s : ByteArray) : VR S K R (.string s) (.string s)
 | nilFunc : VR S K R .nilFunc .nilFunc
 | nilIface : VR S K R .nilIface .nilIface
 | pointer {a a' : Option Addr} : OaR R a a' -> VR S K R (.pointer a) (.pointer a')
 | slice {a a' : Option Addr} {n c : Nat} : OaR R a a' -> VR S K R (.slice a n c) (.slice a' n c)
 | map {a a' : Option Nat} : OnR R a a' -> VR S K R (.map a) (.map a')
 | chan {a a' : Option Nat} : OnR (R.or K) a a' -> VR S K R (.chan a) (.chan a')
 | func {f : FuncId} {xs xs' ys ys' : Array Value} : S f -> xs.size = xs'.size -> (∀ (i : Nat) (v v' : Value),xs[i]? = some v -> xs'[i]? = some v' -> VR S K R v v') ->
   ys.size = ys'.size -> (∀ (i : Nat) (v v' : Value),ys[i]? = some v -> ys'[i]? = some v' -> VR S K R v v') -> VR S K R (.func (.func f) xs ys) (.func (.func f) xs' ys')
 | iface {t : TypeId} {v v' : Value} : VR S K R v v' -> VR S K R (.iface t v) (.iface t v')
 | agg {xs xs' : Array Value} : xs.size = xs'.size -> (∀ (i : Nat) (v v' : Value),xs[i]? = some v -> xs'[i]? = some v' -> VR S K R v v') -> VR S K R (.agg xs) (.agg xs')
 | tuple {xs xs' : Array Value} : xs.size = xs'.size -> (∀ (i : Nat) (v v' : Value),xs[i]? = some v -> xs'[i]? = some v' -> VR S K R v v') -> VR S K R (.tuple xs) (.tuple xs')
 | junk {v' : Value} : Hid v' -> VR S K R .nilFunc v'
def ArR (S : FuncId -> Prop) (K R : Pr) (xs xs' : Array Value) : Prop:=xs.size = xs'.size /\ ∀ (i : Nat) (v v' : Value),xs[i]? = some v -> xs'[i]? = some v' -> VR S K R v v'
section
variable {S : FuncId -> Prop} {K R R' : Pr}
theorem AdR.mono (h : R.le R') {a a' : Addr} (x : AdR R a a') : AdR R' a a':=by cases x with | mk x => exact .mk (h _ _ x)
theorem OaR.mono (h : R.le R') {a a' : Option Addr} (x : OaR R a a') : OaR R' a a':=by cases x with | none => exact .none | some x => exact .some (x.mono h)
theorem OnR.mono (h : R.le R') {a a' : Option Nat} (x : OnR R a a') : OnR R' a a':=by cases x with | none => exact .none | some x => exact .some (h _ _ x)
theorem VR.mono (h : R.le R') {v v' : Value} (x : VR S K R v v') : VR S K R' v v':=by
 induction x with
 | bool b => exact .bool b
 | int k n => exact .int k n
 | string s => exact .string s
 | nilFunc => exact .nilFunc
 | nilIface => exact .nilIface
 | pointer x => exact .pointer (x.mono h)
 | slice x => exact .slice (x.mono h)
 | map x => exact .map (x.mono h)
 | chan x => exact .chan (x.mono (Pr.or_mono h))
 | func s e1 _ e2 _ i1 i2 => exact .func s e1 i1 e2 i2
 | iface _ ih => exact .iface ih
 | agg e _ ih => exact .agg e ih
 | tuple e _ ih => exact .tuple e ih
 | junk h => exact .junk h
theorem ArR.mono (h : R.le R') {xs xs' : Array Value} (x : ArR S K R xs xs') : ArR S K R' xs xs':=⟨x.1,λ i v v' h1 h2 => (x.2 i v v' h1 h2).mono h⟩
theorem ArR.get {xs xs' : Array Value} (x : ArR S K R xs xs') {i : Nat} {v : Value} (h : xs[i]? = some v) : ∃ v',xs'[i]? = some v' /\ VR S K R v v':=by
 have hi : i < xs'.size:=by rw [<- x.1]; exact (Array.getElem?_eq_some_iff.1 h).1
 exact ⟨xs'[i],Array.getElem?_eq_getElem hi,x.2 i _ _ h (Array.getElem?_eq_getElem hi)⟩
theorem ArR.none {xs xs' : Array Value} (x : ArR S K R xs xs') {i : Nat} (h : xs[i]? = none) : xs'[i]? = none:=by
 rw [Array.getElem?_eq_none_iff] at h ⊢; rw [<- x.1]; exact h
theorem ArR.getD {xs xs' : Array Value} (x : ArR S K R xs xs') (i : Nat) {d d' : Value} (hd : VR S K R d d') : VR S K R (xs.getD i d) (xs'.getD i d'):=by
 rw [Array.getD_eq_getD_getElem?,Array.getD_eq_getD_getElem?]
 cases h : xs[i]? with
 | none => rw [x.none h]; exact hd
 | some v => obtain ⟨v',h',hv⟩:=x.get h; rw [h']; exact hv
theorem ArR.set {xs xs' : Array Value} (x : ArR S K R xs xs') (i : Nat) {v v' : Value} (hv : VR S K R v v') : ArR S K R (xs.setIfInBounds i v) (xs'.setIfInBounds i v'):=by
 refine ⟨by simp [x.1],λ j u u' h h' => ?_⟩
 by_cases e : i = j
 ·subst e
  rw [Array.getElem?_setIfInBounds] at h h'
  simp only [if_true] at h h'
  split at h <;> split at h' <;> simp_all
 ·rw [Array.getElem?_setIfInBounds_ne e] at h h'
  exact x.2 j u u' h h'
theorem ArR.push {xs xs' : Array Value} (x : ArR S K R xs xs') {v v' : Value} (hv : VR S K R v v') : ArR S K R (xs.push v) (xs'.push v'):=by
 refine ⟨by simp [x.1],λ j u u' h h' => ?_⟩
 rw [Array.getElem?_push] at h h'
 rw [<- x.1] at h'
 split at h
 ·rename_i e; rw [if_pos e] at h'; injection h with h; injection h' with h'; subst h h'; exact hv
 ·rename_i e; rw [if_neg e] at h'; exact x.2 j u u' h h'
theorem ArR.append {xs xs' ys ys' : Array Value} (x : ArR S K R xs xs') (y : ArR S K R ys ys') : ArR S K R (xs ++ ys) (xs' ++ ys'):=by
 refine ⟨by simp [x.1,y.1],λ j u u' h h' => ?_⟩
 rw [Array.getElem?_append] at h h'
 rw [<- x.1] at h'
 split at h
 ·rename_i e; rw [if_pos e] at h'; exact x.2 j u u' h h'
 ·rename_i e; rw [if_neg e] at h'; exact y.2 _ u u' h h'
theorem ArR.empty : ArR S K R #[] #[]:=⟨rfl,λ i v v' h => by simp at h⟩
theorem ArR.one {v v' : Value} (h : VR S K R v v') : ArR S K R #[v] #[v']:=ArR.empty.push h
theorem ArR.extract {xs xs' : Array Value} (x : ArR S K R xs xs') (i j : Nat) : ArR S K R (xs.extract i j) (xs'.extract i j):=by
 refine ⟨by simp [x.1],λ k u u' h h' => ?_⟩
 rw [Array.getElem?_extract] at h h'
 split at h
 ·rename_i e; rw [<- x.1,if_pos e] at h'; exact x.2 _ u u' h h'
 ·cases h
theorem VR.agg' {xs xs' : Array Value} (x : ArR S K R xs xs') : VR S K R (.agg xs) (.agg xs'):=.agg x.1 x.2
theorem VR.tuple' {xs xs' : Array Value} (x : ArR S K R xs xs') : VR S K R (.tuple xs) (.tuple xs'):=.tuple x.1 x.2
theorem VR.cells {v v' : Value} (x : VR S K R v v') : ArR S K R v.cells v'.cells:=by
 cases x with
 | agg e h => exact ⟨e,h⟩
 | bool b => exact .one (.bool b)
 | int k n => exact .one (.int k n)
 | string s => exact .one (.string s)
 | nilFunc => exact .one .nilFunc
 | nilIface => exact .one .nilIface
 | pointer x => exact .one (.pointer x)
 | slice x => exact .one (.slice x)
 | map x => exact .one (.map x)
 | chan x => exact .one (.chan x)
 | func s e1 h1 e2 h2 => exact .one (.func s e1 h1 e2 h2)
 | iface x => exact .one (.iface x)
 | tuple e h => exact .one (.tuple e h)
 | junk h =>
  have e : v'.cells = #[v']:=by cases v' <;> first | rfl | exact h.elim
  rw [e]; exact .one (.junk h)
end
end Go.Tt
namespace Go.Tt
structure Pair where
 c : Program
 fs : Array Func
 op : FuncId -> Bool
 lw : FuncId -> Bool
 gs : FuncId -> Bool
 dy : Bool
abbrev Pair.g (P : Pair) : Program:={ P.c with funcs:=P.fs }
abbrev Pair.underlying (P : Pair) (t : TypeId):=P.c.underlying t
abbrev Pair.info? (P : Pair) (t : TypeId):=P.c.info? t
abbrev Pair.globals (P : Pair):=P.c.globals
def tabOk (p : Program) (g : Nat) : Bool:=match p.globals[g]? with | some x => (match p.underlying x.type with | some (.array _ _) => true | _ => false) | none => false
structure Gp where
 n : Nat
 tab : Nat -> Bool
abbrev prGp (p : Program) : Gp:=⟨p.globals.size,tabOk p⟩
abbrev Pair.gp (P : Pair) : Gp:=prGp P.c
theorem Pair.underlying_g (P : Pair) (t : TypeId) : P.g.underlying t = P.c.underlying t:=rfl
theorem Pair.info_g (P : Pair) (t : TypeId) : P.g.info? t = P.c.info? t:=rfl
theorem Pair.cells_g (P : Pair) (t : TypeId) : P.g.cellsOf t = P.c.cellsOf t:=rfl
theorem Pair.bytes_g (P : Pair) (t : TypeId) : P.g.bytesOf t = P.c.bytesOf t:=rfl
theorem Pair.depth_g (P : Pair) : P.g.depth = P.c.depth:=rfl
theorem Pair.byteOfCell_g (P : Pair) : ∀ (d : Nat) (t : TypeId) (o : Nat),byteOfCell P.g d t o = byteOfCell P.c d t o:=by
 intro d
 induction d with
 | zero => intro t o; rfl
 | succ d ih =>
  intro t o
  unfold byteOfCell
  rw [P.underlying_g]
  simp only [ih,P.cells_g,P.bytes_g]
  rfl
theorem Pair.globals_g (P : Pair) : P.g.globals = P.c.globals:=rfl
inductive EntR (S : FuncId -> Prop) (K R : Pr) : MapEntry -> MapEntry -> Prop
 | mk {k k' v v' : Value} {born : Nat} : VR S K R k k' -> VR S K R v v' -> EntR S K R ⟨k,v,born⟩ ⟨k',v',born⟩
def EnsR (S : FuncId -> Prop) (K R : Pr) (es es' : Array MapEntry) : Prop:=es.size = es'.size /\ ∀ (i : Nat) (e e' : MapEntry),es[i]? = some e -> es'[i]? = some e' -> EntR S K R e e'
def inFz (fz : Nat × Nat) (o : Nat) : Prop:=fz.1 <= o /\ o < fz.2
inductive ObR (S : FuncId -> Prop) (K R : Pr) : Obj -> Obj -> Prop
 | cells {c c' : Array Value} {T : TypeId} {fz fz' : Nat × Nat} : ArR S K R c c' -> (∀ o,inFz fz' o -> inFz fz o) -> ObR S K R (.cells c T fz) (.cells c' T fz')
 | map {es es' : Array MapEntry} {cl : Nat} : EnsR S K R es es' -> ObR S K R (.map es cl) (.map es' cl)
 | chan {cap s r : Nat} {buf buf' : Array Value} {closed tm : Bool} : ArR S K R buf buf' -> ObR S K R (.chan cap buf closed s r tm) (.chan cap buf' closed s r tm)
 | stringIter (s : ByteArray) (pos : Nat) : ObR S K R (.stringIter s pos) (.stringIter s pos)
 | number {a a' : Addr} {lost : Bool} : AdR R a a' -> ObR S K R (.number a lost) (.number a' lost)
 | mapIter {m m' : Option Nat} {since stepped : Nat} {seen : Array Nat} : OnR R m m' -> ObR S K R (.mapIter m since seen stepped) (.mapIter m' since seen stepped)
section
variable {S : FuncId -> Prop} {K R R' : Pr}
theorem EntR.mono (h : R.le R') {e e' : MapEntry} (x : EntR S K R e e') : EntR S K R' e e':=by cases x with | mk a b => exact .mk (a.mono h) (b.mono h)
theorem EnsR.mono (h : R.le R') {e e' : Array MapEntry} (x : EnsR S K R e e') : EnsR S K R' e e':=⟨x.1,λ i a b h1 h2 => (x.2 i a b h1 h2).mono h⟩
theorem ObR.mono (h : R.le R') {o o' : Obj} (x : ObR S K R o o') : ObR S K R' o o':=by
 cases x with
 | cells a b => exact .cells (a.mono h) b
 | map a => exact .map (a.mono h)
 | chan a => exact .chan (a.mono h)
 | stringIter s p => exact .stringIter s p
 | number a => exact .number (a.mono h)
 | mapIter a => exact .mapIter (a.mono h)
end
def waste : Obj:=.cells #[] 0
structure RelOk (P : Pair) (K R : Pr) : Prop where
 inj : ∀ a b c,R.or K a b -> R.or K a c -> b = c
 inj' : ∀ a b c,R.or K a c -> R.or K b c -> a = b
 low : ∀ a b,R a b -> (a < P.globals.size ↔ b < P.globals.size)
 tb : ∀ g,tabOk P.c g = true -> R g g
structure Fresh (P : Pair) (K R : Pr) (n n' : Nat) : Prop where
 l : ∀ b,¬ R.or K n b
 r : ∀ a,¬ R.or K a n'
 low : P.globals.size <= n /\ P.globals.size <= n'
structure Ext (P : Pair) (K R R' : Pr) : Prop where
 le : R.le R'
 ok : RelOk P K R -> RelOk P K R'
theorem Ext.refl {P : Pair} {K : Pr} (R : Pr) : Ext P K R R:=⟨.refl R,id⟩
theorem Ext.trans {P : Pair} {K R R' R'' : Pr} (h : Ext P K R R') (h' : Ext P K R' R'') : Ext P K R R'':=⟨h.le.trans h'.le,λ x => h'.ok (h.ok x)⟩
theorem Ext.add {P : Pair} {K R : Pr} {n n' : Nat} (f : Fresh P K R n n') : Ext P K R (R.add n n'):=by
 refine ⟨Pr.le_add R n n',λ h => ⟨?_,?_,?_,λ g hg => .inl (h.tb g hg)⟩⟩
 ·rintro a b c ((x | ⟨rfl,rfl⟩) | x) ((y | ⟨e,rfl⟩) | y)
  ·exact h.inj a b c (.inl x) (.inl y)
  ·exact absurd (.inl (e ▸ x)) (f.l _)
  ·exact h.inj a b c (.inl x) (.inr y)
  ·exact absurd (.inl y) (f.l _)
  ·rfl
  ·exact absurd (.inr y) (f.l _)
  ·exact h.inj a b c (.inr x) (.inl y)
  ·exact absurd (.inr (e ▸ x)) (f.l _)
  ·exact h.inj a b c (.inr x) (.inr y)
 ·rintro a b c ((x | ⟨rfl,rfl⟩) | x) ((y | ⟨rfl,e⟩) | y)
  ·exact h.inj' a b c (.inl x) (.inl y)
  ·exact absurd (.inl (e ▸ x)) (f.r _)
  ·exact h.inj' a b c (.inl x) (.inr y)
  ·exact absurd (.inl y) (f.r _)
  ·rfl
  ·exact absurd (.inr y) (f.r _)
  ·exact h.inj' a b c (.inr x) (.inl y)
  ·exact absurd (.inr (e ▸ x)) (f.r _)
  ·exact h.inj' a b c (.inr x) (.inr y)
 ·rintro a b (x | ⟨rfl,rfl⟩)
  ·exact h.low a b x
  ·have:=f.low; omega
def TameH : Halt -> Prop
 | .panic _ | .stuck _ => True
 | .unsupported (.initOrder _) => False
 | .unsupported _ => True
 | _ => False
def NoPend (w : World) : Prop:=∀ (b : Nat) (c : Array Value) (e : TypeId),w.heap[b]? ≠ some (.pending c e)
def Never (P : Pair) {α : Type} (s : Sem α) : Prop:=∀ w,NoPend w -> ∃ h w',s.run P.g w = .halt h w' /\ TameH h
theorem Never.no {P : Pair} {α : Type} {s : Sem α} (h : Never P s) {w : World} (hw : NoPend w) (x : α) (w' : World) : s.run P.g w ≠ .ok x w':=by
 obtain ⟨_,_,e,_⟩:=h w hw
 rw [e]; simp
theorem Never.bind {P : Pair} {α β : Type} {s : Sem α} (h : Never P s) (f : α -> Sem β) : Never P (s.bind f):=by
 intro w hw
 obtain ⟨y,w1,e,ht⟩:=h w hw
 exact ⟨y,w1,by rw [Sem.run_bind',e]; rfl,ht⟩
def SimC (P : Pair) (S : FuncId -> Prop) (K : Pr) {α β : Type} (A : Pr -> α -> β -> Prop) : Sem α -> Pr -> Sem β -> Prop
 | .pure a,R,s' => ∃ b,s' = .pure b /\ A R a b
 | .load m a k,R,s' => m = .plain /\ ∃ a' k',s' = .load .plain a' k' /\ AdR R a a' /\ ∀ v v',VR S K R v v' -> Never P (k v) \/ SimC P S K A (k v) R (k' v')
 | .store m a v k,R,s' => m = .plain /\ ∃ a' v' k',s' = .store .plain a' v' k' /\ AdR R a a' /\ VR S K R v v' /\ (Never P k \/ SimC P S K A k R k')
 | .new o k,R,s' => ∃ o' k',s' = .new o' k' /\ ObR S K R o o' /\ ∀ n n',Fresh P K R n n' -> Never P (k n) \/ SimC P S K A (k n) (R.add n n') (k' n')
 | .shape r k,R,s' => ∃ r' k',s' = .shape r' k' /\ R r r' /\ ∀ x,Never P (k x) \/ SimC P S K A (k x) R (k' x)
 | .freeze _ _ _,_,_ => False
 | .frozen a k,R,s' => ∃ a' k',s' = .frozen a' k' /\ ∀ x x',Never P (k x) \/ SimC P S K A (k x) R (k' x')
 | .getObj r k,R,s' => ∃ r' k',s' = .getObj r' k' /\ R.or K r r' /\ ∀ o o',ObR S K R o o' -> Never P (k o) \/ SimC P S K A (k o) R (k' o')
 | .setObj r o k,R,s' => ∃ r' o' k',s' = .setObj r' o' k' /\ R.or K r r' /\ ObR S K R o o' /\ (Never P k \/ SimC P S K A k R k')
 | .choose q k,R,s' => ∃ k',s' = .choose q k' /\ ∀ n,Never P (k n) \/ SimC P S K A (k n) R (k' n)
 | .sys _ _,_,_ => False
 | .program k,R,s' => ∃ k',s' = .program k' /\ (Never P (k P.g) \/ SimC P S K A (k P.g) R (k' P.c))
 | .mark m k,R,s' => m = .noRoom /\ ∃ k',s' = .mark .noRoom k' /\ (Never P k \/ SimC P S K A k R k')
 | .halt _,_,_ => False
def Sim (P : Pair) (S : FuncId -> Prop) (K : Pr) {α β : Type} (A : Pr -> α -> β -> Prop) (s : Sem α) (R : Pr) (s' : Sem β) : Prop:=Never P s \/ SimC P S K A s R s'
section
variable {P : Pair} {S : FuncId -> Prop} {K : Pr} {α β γ δ : Type} {A : Pr -> α -> β -> Prop} {B : Pr -> γ -> δ -> Prop}
theorem Sim.pure {R : Pr} {a : α} {b : β} (h : A R a b) : Sim P S K A (.pure a) R (.pure b):=.inr ⟨b,rfl,h⟩
theorem Never.halt {h : Halt} (ht : TameH h) : Never P (.halt h : Sem α):=λ w _ => ⟨h,w,rfl,ht⟩
theorem Sim.bind {s : Sem α} : ∀ {R : Pr} {s' : Sem β} {f : α -> Sem γ} {f' : β -> Sem δ},Sim P S K A s R s' -> (∀ R',Ext P K R R' -> ∀ a b,A R' a b -> Sim P S K B (f a) R' (f' b)) -> Sim P S K B (s.bind f) R (s'.bind f'):=by
 induction s with
 | pure a =>
  rintro R s' f f' (hn | ⟨b,rfl,h⟩) hf
  ·exact .inl (hn.bind _)
  ·exact hf R (.refl R) a b h
 | load m a k ih =>
  rintro R s' f f' (hn | ⟨hm,a',k',rfl,ha,hk⟩) hf
  ·exact .inl (hn.bind _)
  ·exact .inr ⟨hm,a',_,rfl,ha,λ v v' hv => ih v (hk v v' hv) hf⟩
 | store m a v k ih =>
  rintro R s' f f' (hn | ⟨hm,a',v',k',rfl,ha,hv,hk⟩) hf
  ·exact .inl (hn.bind _)
  ·exact .inr ⟨hm,a',v',_,rfl,ha,hv,ih hk hf⟩
 | new o k ih =>
  rintro R s' f f' (hn | ⟨o',k',rfl,ho,hk⟩) hf
  ·exact .inl (hn.bind _)
  ·exact .inr ⟨o',_,rfl,ho,λ n n' hfr => ih n (hk n n' hfr) λ R' hR a b h => hf R' ((Ext.add hfr).trans hR) a b h⟩
 | shape r k ih =>
  rintro R s' f f' (hn | ⟨r',k',rfl,hr,hk⟩) hf
  ·exact .inl (hn.bind _)
  ·exact .inr ⟨r',_,rfl,hr,λ x => ih x (hk x) hf⟩
 | freeze a n k ih =>
  rintro R s' f f' (hn | h) hf
  ·exact .inl (hn.bind _)
  ·exact h.elim
 | frozen a k ih =>
  rintro R s' f f' (hn | ⟨r',k',rfl,hk⟩) hf
  ·exact .inl (hn.bind _)
  ·exact .inr ⟨r',_,rfl,λ x x' => ih x (hk x x') hf⟩
 | getObj r k ih =>
  rintro R s' f f' (hn | ⟨r',k',rfl,hr,hk⟩) hf
  ·exact .inl (hn.bind _)
  ·exact .inr ⟨r',_,rfl,hr,λ o o' ho => ih o (hk o o' ho) hf⟩
 | setObj r o k ih =>
  rintro R s' f f' (hn | ⟨r',o',k',rfl,hr,ho,hk⟩) hf
  ·exact .inl (hn.bind _)
  ·exact .inr ⟨r',o',_,rfl,hr,ho,ih hk hf⟩
 | choose q k ih =>
  rintro R s' f f' (hn | ⟨k',rfl,hk⟩) hf
  ·exact .inl (hn.bind _)
  ·exact .inr ⟨_,rfl,λ n => ih n (hk n) hf⟩
 | sys c k ih =>
  rintro R s' f f' (hn | h) hf
  ·exact .inl (hn.bind _)
  ·exact h.elim
 | program k ih =>
  rintro R s' f f' (hn | ⟨k',rfl,hk⟩) hf
  ·exact .inl (hn.bind _)
  ·exact .inr ⟨_,rfl,ih P.g hk hf⟩
 | mark m k ih =>
  rintro R s' f f' (hn | ⟨rfl,k',rfl,hk⟩) hf
  ·exact .inl (hn.bind _)
  ·exact .inr ⟨rfl,_,rfl,ih hk hf⟩
 | halt h =>
  rintro R s' f f' (hn | hx) _
  ·exact .inl (hn.bind _)
  ·exact hx.elim
theorem Sim.mono {A' : Pr -> α -> β -> Prop} {s : Sem α} : ∀ {R : Pr} {s' : Sem β},Sim P S K A s R s' -> (∀ R',Ext P K R R' -> ∀ a b,A R' a b -> A' R' a b) -> Sim P S K A' s R s':=by
 induction s with
 | pure a =>
  rintro R s' (hn | ⟨b,rfl,h⟩) hf
  ·exact .inl hn
  ·exact .inr ⟨b,rfl,hf R (.refl R) a b h⟩
 | load m a k ih =>
  rintro R s' (hn | ⟨hm,a',k',rfl,ha,hk⟩) hf
  ·exact .inl hn
  ·exact .inr ⟨hm,a',_,rfl,ha,λ v v' hv => ih v (hk v v' hv) hf⟩
 | store m a v k ih =>
  rintro R s' (hn | ⟨hm,a',v',k',rfl,ha,hv,hk⟩) hf
  ·exact .inl hn
  ·exact .inr ⟨hm,a',v',_,rfl,ha,hv,ih hk hf⟩
 | new o k ih =>
  rintro R s' (hn | ⟨o',k',rfl,ho,hk⟩) hf
  ·exact .inl hn
  ·exact .inr ⟨o',_,rfl,ho,λ n n' hfr => ih n (hk n n' hfr) λ R' hR a b h => hf R' ((Ext.add hfr).trans hR) a b h⟩
 | shape r k ih =>
  rintro R s' (hn | ⟨r',k',rfl,hr,hk⟩) hf
  ·exact .inl hn
  ·exact .inr ⟨r',_,rfl,hr,λ x => ih x (hk x) hf⟩
 | freeze a n k ih =>
  rintro R s' (hn | h) hf
  ·exact .inl hn
  ·exact h.elim
 | frozen a k ih =>
  rintro R s' (hn | ⟨r',k',rfl,hk⟩) hf
  ·exact .inl hn
  ·exact .inr ⟨r',_,rfl,λ x x' => ih x (hk x x') hf⟩
 | getObj r k ih =>
  rintro R s' (hn | ⟨r',k',rfl,hr,hk⟩) hf
  ·exact .inl hn
  ·exact .inr ⟨r',_,rfl,hr,λ o o' ho => ih o (hk o o' ho) hf⟩
 | setObj r o k ih =>
  rintro R s' (hn | ⟨r',o',k',rfl,hr,ho,hk⟩) hf
  ·exact .inl hn
  ·exact .inr ⟨r',o',_,rfl,hr,ho,ih hk hf⟩
 | choose q k ih =>
  rintro R s' (hn | ⟨k',rfl,hk⟩) hf
  ·exact .inl hn
  ·exact .inr ⟨_,rfl,λ n => ih n (hk n) hf⟩
 | sys c k ih =>
  rintro R s' (hn | h) hf
  ·exact .inl hn
  ·exact h.elim
 | program k ih =>
  rintro R s' (hn | ⟨k',rfl,hk⟩) hf
  ·exact .inl hn
  ·exact .inr ⟨_,rfl,ih P.g hk hf⟩
 | mark m k ih =>
  rintro R s' (hn | ⟨rfl,k',rfl,hk⟩) hf
  ·exact .inl hn
  ·exact .inr ⟨rfl,_,rfl,ih hk hf⟩
 | halt h =>
  rintro R s' (hn | hx) _
  ·exact .inl hn
  ·exact hx.elim
end
structure WRel (S : FuncId -> Prop) (K R : Pr) (G : Gp) (St : Nat -> Prop) (w W : World) : Prop where
 inj : ∀ a b c,R.or K a b -> R.or K a c -> b = c
 inj' : ∀ a b c,R.or K a c -> R.or K b c -> a = b
 lt : ∀ a b,R.or K a b -> a < w.heap.size /\ b < W.heap.size
 low : ∀ a b,R a b -> (a < G.n ↔ b < G.n) /\ (a < G.n -> a = b)
 gle : G.n <= w.heap.size /\ G.n <= W.heap.size
 cont : ∀ a b,R a b -> ∃ o o',w.heap[a]? = some o /\ W.heap[b]? = some o' /\ ObR S K R o o'
 rest : ∀ a b,K a b -> (∀ c,¬ R a c) -> w.heap[a]? = some waste
 st : ∀ a,St a -> (∃ b,R a b) /\ ∃ c T hi,w.heap[a]? = some (.cells c T (0,hi)) /\ c.size <= hi
 np : NoPend w
 tb : ∀ g,G.tab g = true -> R g g
def Tp (w W : World) : Prop:=∀ n q,w.tape (w.drawn + n) q = W.tape (W.drawn + n) q
def evBlock (e : Event) : Option Nat:=match e.loc with | .cell a => some a.block | .obj r => some r | _ => none
def EvOk (R : Pr) (St : Nat -> Prop) (e : Event) : Prop:=
 e = ⟨.mark .noRoom,false,true⟩ \/ ∃ b a,evBlock e = some b /\ R a b /\ (e.write = true -> ¬ St a)
theorem EvOk.mono {R R' : Pr} {St : Nat -> Prop} (h : R.le R') {e : Event} (x : EvOk R St e) : EvOk R' St e:=by
 rcases x with x | ⟨b,a,h1,h2,h3⟩
 ·exact .inl x
 ·exact .inr ⟨b,a,h1,h _ _ h2,h3⟩
structure WStep (S : FuncId -> Prop) (K R : Pr) (G : Gp) (St : Nat -> Prop) (w W : World) (R' : Pr) (w' W' : World) : Prop where
 le : R.le R'
 old : ∀ a b,R a b -> a < w.heap.size /\ b < W.heap.size
 rel : WRel S K R' G St w' W'
 tape : w'.tape = w.tape /\ W'.tape = W.tape
 drawn : ∃ d,w'.drawn = w.drawn + d /\ W'.drawn = W.drawn + d
 os : w'.os = w.os /\ W'.os = W.os
 out : w'.output = w.output /\ W'.output = W.output
 size : w.heap.size <= w'.heap.size /\ W.heap.size <= W'.heap.size
 new : ∀ a b,R' a b -> R a b \/ (w.heap.size <= a /\ W.heap.size <= b)
 full : ∀ b,W.heap.size <= b -> b < W'.heap.size -> ∃ a,R' a b /\ w.heap.size <= a
 keep : ∀ b,b < W.heap.size -> (∀ a,R a b -> St a) -> W'.heap[b]? = W.heap[b]?
 still : ∀ a,St a -> w'.heap[a]? = w.heap[a]?
 keepG : ∀ a,a < w.heap.size -> (∀ b,¬ R a b) -> w'.heap[a]? = w.heap[a]?
section
variable {P : Pair} {S : FuncId -> Prop} {K R R' R'' : Pr} {G : Gp} {St : Nat -> Prop} {w W w' W' w'' W'' : World}
theorem WRel.ltR (h : WRel S K R G St w W) : ∀ a b,R a b -> a < w.heap.size /\ b < W.heap.size:=λ a b x => h.lt a b (.inl x)
theorem WStep.refl (h : WRel S K R G St w W) : WStep S K R G St w W R w W:=
 ⟨.refl R,h.ltR,h,⟨rfl,rfl⟩,⟨0,rfl,rfl⟩,⟨rfl,rfl⟩,⟨rfl,rfl⟩,⟨Nat.le_refl _,Nat.le_refl _⟩,λ _ _ h => .inl h,λ b h1 h2 => absurd h2 (by omega),λ _ _ _ => rfl,λ _ _ => rfl,λ _ _ _ => rfl⟩
theorem WStep.trans (h : WStep S K R G St w W R' w' W') (h' : WStep S K R' G St w' W' R'' w'' W'') : WStep S K R G St w W R'' w'' W'':=by
 obtain ⟨d,d1,d2⟩:=h.drawn
 obtain ⟨e,e1,e2⟩:=h'.drawn
 have s1:=h.size
 have s2:=h'.size
 refine ⟨h.le.trans h'.le,h.old,h'.rel,⟨h'.tape.1.trans h.tape.1,h'.tape.2.trans h.tape.2⟩,⟨d + e,by omega,by omega⟩,⟨h'.os.1.trans h.os.1,h'.os.2.trans h.os.2⟩,⟨h'.out.1.trans h.out.1,h'.out.2.trans h.out.2⟩,⟨by omega,by omega⟩,?_,?_,?_,?_,?_⟩
 ·intro a b x
  rcases h'.new a b x with x | ⟨x,y⟩
  ·exact h.new a b x
  ·exact .inr ⟨by omega,by omega⟩
 ·intro b x y
  rcases Nat.lt_or_ge b W'.heap.size with z | z
  ·obtain ⟨a,r,g⟩:=h.full b x z
   exact ⟨a,h'.le a b r,g⟩
  ·obtain ⟨a,r,g⟩:=h'.full b z y
   exact ⟨a,r,by omega⟩
 ·intro b x hk
  refine (h'.keep b (by omega) λ a r => ?_).trans (h.keep b x hk)
  rcases h.new a b r with r' | ⟨_,r'⟩
  ·exact hk a r'
  ·omega
 ·intro a x; exact (h'.still a x).trans (h.still a x)
 ·intro a x y
  refine (h'.keepG a (by omega) λ b r => ?_).trans (h.keepG a x y)
  rcases h.new a b r with r' | ⟨r',_⟩
  ·exact y b r'
  ·omega
end
end Go.Tt
namespace Go.Tt
section
variable {P : Pair} {S : FuncId -> Prop} {K R R' : Pr} {G : Gp} {St : Nat -> Prop} {w W w' W' : World}
theorem plain_ne : (Mode.plain == Mode.atomic) = false:=rfl
theorem heap_lt {w : World} {a : Nat} {o : Obj} (h : w.heap[a]? = some o) : a < w.heap.size:=(Array.getElem?_eq_some_iff.1 h).1
theorem ObR.live {S : FuncId -> Prop} {K R : Pr} {o o' : Obj} (h : ObR S K R o o') : ∀ c e,o ≠ .pending c e:=by cases h <;> simp
theorem NoPend.set {w : World} (h : NoPend w) {a : Nat} {o : Obj} (ho : ∀ c e,o ≠ .pending c e) : NoPend { w with heap:=w.heap.setIfInBounds a o }:=by
 intro b c e
 by_cases hb : a = b
 ·subst hb
  rcases Nat.lt_or_ge a w.heap.size with hl | hl
  ·simp only [Array.getElem?_setIfInBounds_self_of_lt hl,ne_eq,Option.some.injEq]; exact ho c e
  ·rw [Array.getElem?_eq_none (by simpa using hl)]; simp
 ·simp only [Array.getElem?_setIfInBounds_ne hb]; exact h b c e
theorem NoPend.push {w : World} (h : NoPend w) {o : Obj} (ho : ∀ c e,o ≠ .pending c e) : NoPend { w with heap:=w.heap.push o }:=by
 intro b c e
 simp only [Array.getElem?_push]
 split
 ·simp only [ne_eq,Option.some.injEq]; exact ho c e
 ·exact h b c e
theorem WStep.upd (h : WRel S K R G St w W) {a b : Nat} {o o' : Obj} (r : R a b) (ns : ¬ St a) (ho : ObR S K R o o') :
  WStep S K R G St w W R { w with heap:=w.heap.setIfInBounds a o } { W with heap:=W.heap.setIfInBounds b o' }:=by
 obtain ⟨l1,l2⟩:=h.ltR a b r
 refine ⟨.refl R,h.ltR,⟨h.inj,h.inj',λ x y z => by simpa using h.lt x y z,h.low,by simpa using h.gle,λ x y z => ?_,λ x y' hx nf => ?_,λ x sx => ?_,NoPend.set h.np ho.live,h.tb⟩,⟨rfl,rfl⟩,⟨0,rfl,rfl⟩,⟨rfl,rfl⟩,⟨rfl,rfl⟩,⟨by simp,by simp⟩,λ _ _ h => .inl h,λ x h1 h2 => absurd h2 (by simp; omega),λ x hx hk => ?_,λ x sx => ?_,λ x hx nf => ?_⟩
 ·by_cases e : x = a
  ·subst e
   have:=h.inj x y b (.inl z) (.inl r)
   subst this
   exact ⟨o,o',by simp [l1],by simp [l2],ho⟩
  ·have e' : y ≠ b:=λ e' => e (h.inj' x a b (.inl (e' ▸ z)) (.inl r))
   obtain ⟨p,q,h1,h2,h3⟩:=h.cont x y z
   exact ⟨p,q,by simp [Array.getElem?_setIfInBounds_ne (Ne.symm e),h1],by simp [Array.getElem?_setIfInBounds_ne (Ne.symm e'),h2],h3⟩
 ·have e : x ≠ a:=λ e => nf b (e ▸ r)
  have:=h.rest x _ hx nf
  simp [Array.getElem?_setIfInBounds_ne (Ne.symm e),this]
 ·have e : x ≠ a:=λ e => ns (e ▸ sx)
  obtain ⟨fx,c,T,hi,h1,h2⟩:=h.st x sx
  exact ⟨fx,c,T,hi,by simp [Array.getElem?_setIfInBounds_ne (Ne.symm e),h1],h2⟩
 ·have e : b ≠ x:=λ e => ns (hk a (e ▸ r))
  simp [Array.getElem?_setIfInBounds_ne e]
 ·have e : x ≠ a:=λ e => ns (e ▸ sx)
  simp [Array.getElem?_setIfInBounds_ne (Ne.symm e)]
 ·have e : x ≠ a:=λ e => nf b (e ▸ r)
  simp [Array.getElem?_setIfInBounds_ne (Ne.symm e)]
theorem setCell_eq {w : World} {b o : Nat} {c : Array Value} {T : TypeId} {fz : Nat × Nat} (h : w.heap[b]? = some (.cells c T fz)) (v : Value) :
  w.setCell ⟨b,o,none⟩ v = { w with heap:=w.heap.setIfInBounds b (.cells (c.setIfInBounds o v) T fz) }:=by
 have hl:=heap_lt h
 have hb : w.heap[b] = .cells c T fz:=by simpa [Array.getElem?_eq_getElem hl] using h
 unfold World.setCell
 congr 1
 apply Array.ext_getElem?
 intro i
 rw [Array.getElem?_modify]
 by_cases e : b = i
 ·subst e; simp [hl,hb]
 ·rw [if_neg e,Array.getElem?_setIfInBounds_ne e]
theorem WStep.push (h : WRel S K R G St w W) {o o' : Obj} (ho : ObR S K R o o') :
  WStep S K R G St w W (R.add w.heap.size W.heap.size) { w with heap:=w.heap.push o } { W with heap:=W.heap.push o' }:=by
 have l1 : ∀ a b,R.or K a b -> a ≠ w.heap.size:=λ a b x e => by have:=(h.lt a b x).1; omega
 have l2 : ∀ a b,R.or K a b -> b ≠ W.heap.size:=λ a b x e => by have:=(h.lt a b x).2; omega
 have g1:=h.gle
 refine ⟨Pr.le_add _ _ _,h.ltR,⟨?_,?_,?_,?_,by simp; omega,?_,?_,?_,NoPend.push h.np ho.live,λ g hg => .inl (h.tb g hg)⟩,⟨rfl,rfl⟩,⟨0,rfl,rfl⟩,⟨rfl,rfl⟩,⟨rfl,rfl⟩,⟨by simp,by simp⟩,?_,?_,?_,?_,?_⟩
 ·rintro a b c ((x | ⟨rfl,rfl⟩) | x) ((y | ⟨e,rfl⟩) | y)
  ·exact h.inj a b c (.inl x) (.inl y)
  ·exact absurd e (l1 _ _ (.inl x))
  ·exact h.inj a b c (.inl x) (.inr y)
  ·exact absurd rfl (l1 _ _ (.inl y))
  ·rfl
  ·exact absurd rfl (l1 _ _ (.inr y))
  ·exact h.inj a b c (.inr x) (.inl y)
  ·exact absurd e (l1 _ _ (.inr x))
  ·exact h.inj a b c (.inr x) (.inr y)
 ·rintro a b c ((x | ⟨rfl,rfl⟩) | x) ((y | ⟨rfl,e⟩) | y)
  ·exact h.inj' a b c (.inl x) (.inl y)
  ·exact absurd e (l2 _ _ (.inl x))
  ·exact h.inj' a b c (.inl x) (.inr y)
  ·exact absurd rfl (l2 _ _ (.inl y))
  ·rfl
  ·exact absurd rfl (l2 _ _ (.inr y))
  ·exact h.inj' a b c (.inr x) (.inl y)
  ·exact absurd e (l2 _ _ (.inr x))
  ·exact h.inj' a b c (.inr x) (.inr y)
 ·rintro a b ((x | ⟨rfl,rfl⟩) | x)
  ·have:=h.lt a b (.inl x); simp; omega
  ·simp
  ·have:=h.lt a b (.inr x); simp; omega
 ·rintro a b (x | ⟨rfl,rfl⟩)
  ·exact h.low a b x
  ·exact ⟨by omega,λ z => by omega⟩
 ·rintro a b (x | ⟨rfl,rfl⟩)
  ·obtain ⟨p,q,h1,h2,h3⟩:=h.cont a b x
   exact ⟨p,q,by rw [Array.getElem?_push_lt (heap_lt h1)]; rw [<- h1,Array.getElem?_eq_getElem],by rw [Array.getElem?_push_lt (heap_lt h2)]; rw [<- h2,Array.getElem?_eq_getElem],h3.mono (Pr.le_add _ _ _)⟩
  ·exact ⟨o,o',by simp,by simp,ho.mono (Pr.le_add _ _ _)⟩
 ·intro a b' ha nf
  have e : a ≠ w.heap.size:=λ e => nf _ (.inr ⟨e,rfl⟩)
  have hl : a < w.heap.size:=(h.lt a b' (.inr ha)).1
  have:=h.rest a b' ha (λ b f => nf b (.inl f))
  rw [Array.getElem?_push_lt hl,<- this,Array.getElem?_eq_getElem]
 ·intro a sa
  obtain ⟨⟨b,fa⟩,c,T,hi,h1,h2⟩:=h.st a sa
  exact ⟨⟨b,.inl fa⟩,c,T,hi,by rw [Array.getElem?_push_lt (heap_lt h1),<- h1,Array.getElem?_eq_getElem],h2⟩
 ·rintro a b (x | ⟨rfl,rfl⟩)
  ·exact .inl x
  ·exact .inr ⟨Nat.le_refl _,Nat.le_refl _⟩
 ·intro b x y
  simp only [Array.size_push] at y
  obtain rfl : b = W.heap.size:=by omega
  exact ⟨_,.inr ⟨rfl,rfl⟩,Nat.le_refl _⟩
 ·intro b hb _
  rw [Array.getElem?_push_lt hb,Array.getElem?_eq_getElem]
 ·intro a sa
  obtain ⟨fa,c,T,hi,h1,h2⟩:=h.st a sa
  rw [Array.getElem?_push_lt (heap_lt h1),Array.getElem?_eq_getElem]
 ·intro a ha _
  rw [Array.getElem?_push_lt ha,Array.getElem?_eq_getElem]
theorem WStep.draw (h : WRel S K R G St w W) : WStep S K R G St w W R { w with drawn:=w.drawn + 1 } { W with drawn:=W.drawn + 1 }:=
 ⟨.refl R,h.ltR,⟨h.inj,h.inj',h.lt,h.low,h.gle,h.cont,h.rest,h.st,h.np,h.tb⟩,⟨rfl,rfl⟩,⟨1,rfl,rfl⟩,⟨rfl,rfl⟩,⟨rfl,rfl⟩,⟨Nat.le_refl _,Nat.le_refl _⟩,λ _ _ h => .inl h,λ b h1 h2 => absurd h2 (by simp; omega),λ _ _ _ => rfl,λ _ _ => rfl,λ _ _ _ => rfl⟩
theorem Tp.step (h : Tp w W) (s : WStep S K R G St w W R' w' W') : Tp w' W':=by
 obtain ⟨d,d1,d2⟩:=s.drawn
 intro n q
 rw [s.tape.1,s.tape.2,d1,d2,Nat.add_assoc,Nat.add_assoc]
 exact h (d + n) q
end
def Ran (P : Pair) (S : FuncId -> Prop) (K : Pr) {α β : Type} (A : Pr -> α -> β -> Prop) (R : Pr) (G : Gp) (St : Nat -> Prop) (w W : World) (s' : Sem β) (x : α) (w' : World) : Prop:=
 ∃ R' x' W' ev,s'.run P.c W = .ok x' W' /\ A R' x x' /\ WStep S K R G St w W R' w' W' /\ (∀ es,s'.events P.c W es = es ++ ev) /\ ∀ e ∈ ev,EvOk R' St e
theorem Ran.after {P : Pair} {S : FuncId -> Prop} {K : Pr} {α β : Type} {A : Pr -> α -> β -> Prop} {R R₁ : Pr} {G : Gp} {St : Nat -> Prop} {w W w₁ W₁ : World} {s' s₁' : Sem β} {x : α} {w' : World} {e₁ : Array Event}
  (h₁ : WStep S K R G St w W R₁ w₁ W₁) (hr : s'.run P.c W = s₁'.run P.c W₁) (he : ∀ es,s'.events P.c W es = s₁'.events P.c W₁ (es ++ e₁)) (hok : ∀ e ∈ e₁,EvOk R₁ St e) (h : Ran P S K A R₁ G St w₁ W₁ s₁' x w') : Ran P S K A R G St w W s' x w':=by
 obtain ⟨R',x',W',ev,a,b,c,d,e⟩:=h
 refine ⟨R',x',W',e₁ ++ ev,hr.trans a,b,h₁.trans c,λ es => by rw [he,d,Array.append_assoc],λ y hy => ?_⟩
 rcases Array.mem_append.1 hy with hy | hy
 ·exact (hok y hy).mono c.le
 ·exact e y hy
theorem ObR.shape {S : FuncId -> Prop} {K R : Pr} {G : Gp} {St : Nat -> Prop} {w W : World} (h : WRel S K R G St w W) {r r' : Nat} (x : R r r') : W.shape? r' = w.shape? r:=by
 obtain ⟨o,o',h1,h2,h3⟩:=h.cont r r' x
 unfold World.shape?
 rw [h1,h2]
 cases h3 with
 | cells hc _ => simp [hc.1]
 | _ => rfl
theorem WRel.orR {S : FuncId -> Prop} {K R : Pr} {G : Gp} {St : Nat -> Prop} {w W : World} (h : WRel S K R G St w W) {a b : Nat} (x : R.or K a b) : R a b \/ w.heap[a]? = some waste:=by
 by_cases e : ∃ c,R a c
 ·obtain ⟨c,e⟩:=e
  exact .inl (h.inj a b c x (.inl e) ▸ e)
 ·exact .inr (h.rest a b (x.resolve_left λ y => e ⟨b,y⟩) (λ c y => e ⟨c,y⟩))
theorem Sim.run {P : Pair} {S : FuncId -> Prop} {α β : Type} {K : Pr} {A : Pr -> α -> β -> Prop} {G : Gp} {St : Nat -> Prop} (hG : G = P.gp) {x : α} {w' : World} (s : Sem α) :
  ∀ {R : Pr} {w W : World} {s' : Sem β},Sim P S K A s R s' -> WRel S K R G St w W -> Tp w W -> s.run P.g w = .ok x w' -> Ran P S K A R G St w W s' x w':=by
 induction s with
 | pure a =>
  rintro R w W s' (hn | ⟨b,rfl,h⟩) hw ht hr
  ·exact absurd hr (hn.no hw.np _ _)
  simp only [Sem.run,Result.ok.injEq] at hr
  obtain ⟨rfl,rfl⟩:=hr
  exact ⟨R,b,W,#[],rfl,h,.refl hw,λ es => by unfold Sem.events; rw [Sem.runT]; simp,λ e he => by simp at he⟩
 | load m a k ih =>
  rintro R w W s' (hn | ⟨rfl,a',k',rfl,ha,hk⟩) hw ht hr
  ·exact absurd hr (hn.no hw.np _ _)
  obtain ⟨hab⟩:=ha
  rename_i b b' o sp
  ·obtain ⟨ob,ob',h1,h2,h3⟩:=hw.cont b b' hab
   cases h3 with
   | cells hc hz =>
    rename_i c c' T fz fz'
    cases sp with
    | some sp => simp [Sem.run,World.cell?,h1,World.farLoad,World.noCell] at hr
    | none =>
     cases hv : c[o]? with
     | none => simp [Sem.run,World.cell?,h1,World.farLoad,World.noCell,hv] at hr
     | some v =>
      obtain ⟨v',hv',hvv⟩:=hc.get hv
      have e1 : w.cell? ⟨b,o,none⟩ = some v:=by simp [World.cell?,h1,hv]
      have e2 : W.cell? ⟨b',o,none⟩ = some v':=by simp [World.cell?,h2,hv']
      rw [Sem.run,e1] at hr
      refine Ran.after (e₁:=#[⟨.cell ⟨b',o,none⟩,false,false⟩]) (.refl hw) (by rw [Sem.run,e2]) (λ es => by unfold Sem.events; rw [Sem.runT,e2]; simp [plain_ne]) ?_ (ih v (hk v v' hvv) hw ht hr)
      intro e he
      simp at he
      subst he
      exact .inr ⟨b',b,rfl,hab,by simp⟩
   | map x => simp [Sem.run,World.cell?,h1,World.farLoad,World.noCell] at hr
   | chan x => simp [Sem.run,World.cell?,h1,World.farLoad,World.noCell] at hr
   | stringIter x y => simp [Sem.run,World.cell?,h1,World.farLoad,World.noCell] at hr
   | mapIter x => simp [Sem.run,World.cell?,h1,World.farLoad,World.noCell] at hr
   | number x => simp [Sem.run,World.cell?,h1,World.farLoad,World.noCell] at hr
 | store m a v k ih =>
  rintro R w W s' (hn | ⟨rfl,a',v',k',rfl,ha,hv,hk⟩) hw ht hr
  ·exact absurd hr (hn.no hw.np _ _)
  obtain ⟨hab⟩:=ha
  rename_i b b' o sp
  have hna : ∀ cs,v ≠ .agg cs:=by rintro cs rfl; simp [Sem.run] at hr
  have hnt : ∀ cs,v ≠ .tuple cs:=by rintro cs rfl; simp [Sem.run] at hr
  have hna' : ∀ cs,v' ≠ .agg cs:=by rintro cs rfl; cases hv <;> first | exact hna _ rfl | exact hnt _ rfl | (rename_i hh; exact hh.elim)
  have hnt' : ∀ cs,v' ≠ .tuple cs:=by rintro cs rfl; cases hv <;> first | exact hnt _ rfl | (rename_i hh; exact hh.elim)
  rw [Sem.run] at hr
  rotate_left
  ·exact λ cs => hna cs
  ·exact λ cs => hnt cs
  ·obtain ⟨ob,ob',h1,h2,h3⟩:=hw.cont b b' hab
   cases h3 with
   | cells hc hz =>
    rename_i c c' T fz fz'
    cases sp with
    | some sp => simp [World.cell?,h1,World.farStore,World.noCell] at hr
    | none =>
     cases hv0 : c[o]? with
     | none => simp [World.cell?,h1,World.farStore,World.noCell,hv0] at hr
     | some v0 =>
      obtain ⟨v0',hv0',_⟩:=hc.get hv0
      have e1 : w.cell? ⟨b,o,none⟩ = some v0:=by simp [World.cell?,h1,hv0]
      have e2 : W.cell? ⟨b',o,none⟩ = some v0':=by simp [World.cell?,h2,hv0']
      rw [e1] at hr
      simp only at hr
      cases hfz : w.frozen? ⟨b,o,none⟩ with
      | true => rw [hfz] at hr; simp at hr
      | false =>
       rw [hfz] at hr
       simp only [Bool.false_eq_true,if_false] at hr
       have nfz : ¬ inFz fz o:=by
        intro ⟨z1,z2⟩
        simp [World.frozen?,h1,z1,z2] at hfz
       have hns : ¬ St b:=by
        intro hs
        obtain ⟨_,c2,T2,hi,g1,g2⟩:=hw.st b hs
        rw [h1] at g1
        injection g1 with g1
        injection g1 with g1 _ g3
        subst g1 g3
        exact nfz ⟨Nat.zero_le _,Nat.lt_of_lt_of_le (Array.getElem?_eq_some_iff.1 hv0).1 g2⟩
       have hfz' : W.frozen? ⟨b',o,none⟩ = false:=by
        simp only [World.frozen?,h2]
        cases hq : (decide (fz'.1 <= o) && decide (o < fz'.2)) with
        | false => rfl
        | true => simp at hq; exact absurd (hz o hq) nfz
       rw [setCell_eq h1] at hr
       refine Ran.after (e₁:=#[⟨.cell ⟨b',o,none⟩,true,false⟩]) (WStep.upd hw hab hns (.cells (hc.set o hv) hz)) (s₁':=k') ?_ ?_ ?_ (ih hk (WStep.upd hw hab hns (.cells (hc.set o hv) hz)).rel (ht.step (WStep.upd hw hab hns (.cells (hc.set o hv) hz))) hr)
       ·rw [Sem.run]
        rotate_left
        ·exact λ cs => hna' cs
        ·exact λ cs => hnt' cs
        rw [e2]; simp only [hfz',Bool.false_eq_true,if_false]; rw [setCell_eq h2]
       ·intro es
        unfold Sem.events
        rw [Sem.runT]
        rotate_left
        ·exact λ cs => hna' cs
        ·exact λ cs => hnt' cs
        rw [e2]; simp only [hfz',Bool.false_eq_true,if_false]; rw [setCell_eq h2]; simp [plain_ne]
       ·intro e he
        simp at he
        subst he
        exact .inr ⟨b',b,rfl,hab,λ _ => hns⟩
   | map x => simp [World.cell?,h1,World.farStore,World.noCell] at hr
   | chan x => simp [World.cell?,h1,World.farStore,World.noCell] at hr
   | stringIter x y => simp [World.cell?,h1,World.farStore,World.noCell] at hr
   | mapIter x => simp [World.cell?,h1,World.farStore,World.noCell] at hr
   | number x => simp [World.cell?,h1,World.farStore,World.noCell] at hr
 | new o k ih =>
  rintro R w W s' (hn | ⟨o',k',rfl,ho,hk⟩) hw ht hr
  ·exact absurd hr (hn.no hw.np _ _)
  rw [Sem.run] at hr
  exact Ran.after (e₁:=#[]) (WStep.push hw ho) (by rw [Sem.run]) (λ es => by unfold Sem.events; rw [Sem.runT]; simp) (λ e he => by simp at he) (ih _ (hk _ _ ⟨λ b hb => absurd (hw.lt _ _ hb).1 (Nat.lt_irrefl _),λ a ha => absurd (hw.lt _ _ ha).2 (Nat.lt_irrefl _),by subst hG; exact hw.gle⟩) (WStep.push hw ho).rel (ht.step (WStep.push hw ho)) hr)
 | shape r k ih =>
  rintro R w W s' (hn | ⟨r',k',rfl,hrr,hk⟩) hw ht hr
  ·exact absurd hr (hn.no hw.np _ _)
  rw [Sem.run] at hr
  exact Ran.after (e₁:=#[]) (.refl hw) (by rw [Sem.run,ObR.shape hw hrr]) (λ es => by unfold Sem.events; rw [Sem.runT,ObR.shape hw hrr]; simp) (λ e he => by simp at he) (ih _ (hk _) hw ht hr)
 | freeze a n k ih =>
  rintro R w W s' (hn | h) hw ht hr
  ·exact absurd hr (hn.no hw.np _ _)
  ·exact h.elim
 | frozen a k ih =>
  rintro R w W s' (hn | ⟨r',k',rfl,hk⟩) hw ht hr
  ·exact absurd hr (hn.no hw.np _ _)
  rw [Sem.run] at hr
  exact Ran.after (e₁:=#[]) (.refl hw) (by rw [Sem.run]) (λ es => by unfold Sem.events; rw [Sem.runT]; simp) (λ e he => by simp at he) (ih _ (hk _ _) hw ht hr)
 | getObj r k ih =>
  rintro R w W s' (hn | ⟨r',k',rfl,hrr,hk⟩) hw ht hr
  ·exact absurd hr (hn.no hw.np _ _)
  rw [Sem.run] at hr
  ·replace hrr : R r r':=by
    rcases hw.orR hrr with x | x
    ·exact x
    ·rw [x] at hr; simp [waste] at hr
   obtain ⟨ob,ob',h1,h2,h3⟩:=hw.cont r r' hrr
   rw [h1] at hr
   have go : (∀ c T fz,ob ≠ .cells c T fz) -> (∀ c T fz,ob' ≠ .cells c T fz) -> Ran P S K A R G St w W (.getObj r' k') x w':=by
    intro n1 n2
    refine Ran.after (e₁:=#[⟨.obj r',false,ob'.isChan⟩]) (.refl hw) (s₁':=k' ob') ?_ ?_ ?_ (ih ob (hk _ _ h3) hw ht ?_)
    ·rw [Sem.run,h2]; cases ob' <;> first | rfl | exact absurd rfl (n2 _ _ _)
    ·intro es; unfold Sem.events; rw [Sem.runT,h2]; cases ob' <;> first | (simp; done) | exact absurd rfl (n2 _ _ _)
    ·intro e he
     simp at he
     subst he
     exact .inr ⟨r',r,rfl,hrr,by simp⟩
    ·cases ob <;> first | exact hr | exact absurd rfl (n1 _ _ _)
   cases h3 with
   | cells hc hz => simp at hr
   | map x => exact go (by simp) (by simp)
   | chan x => exact go (by simp) (by simp)
   | stringIter x y => exact go (by simp) (by simp)
   | mapIter x => exact go (by simp) (by simp)
   | number x => exact go (by simp) (by simp)
 | setObj r o k ih =>
  rintro R w W s' (hn | ⟨r',o',k',rfl,hrr,ho,hk⟩) hw ht hr
  ·exact absurd hr (hn.no hw.np _ _)
  rw [Sem.run] at hr
  ·replace hrr : R r r':=by
    rcases hw.orR hrr with x | x
    ·exact x
    ·rw [x] at hr; simp [waste] at hr
   obtain ⟨ob,ob',h1,h2,h3⟩:=hw.cont r r' hrr
   rw [h1] at hr
   have go : (∀ c T fz,ob ≠ .cells c T fz) -> (∀ c T fz,ob' ≠ .cells c T fz) -> Ran P S K A R G St w W (.setObj r' o' k') x w':=by
    intro n1 n2
    have hns : ¬ St r:=by
     intro hs
     obtain ⟨_,c2,T2,hi,g1,g2⟩:=hw.st r hs
     rw [h1] at g1
     injection g1 with g1
     exact n1 _ _ _ g1
    refine Ran.after (e₁:=#[⟨.obj r',true,o'.isChan⟩]) (WStep.upd hw hrr hns ho) (s₁':=k') ?_ ?_ ?_ (ih hk (WStep.upd hw hrr hns ho).rel (ht.step (WStep.upd hw hrr hns ho)) ?_)
    ·rw [Sem.run,h2]; cases ob' <;> first | rfl | exact absurd rfl (n2 _ _ _)
    ·intro es; unfold Sem.events; rw [Sem.runT,h2]; cases ob' <;> first | (simp; done) | exact absurd rfl (n2 _ _ _)
    ·intro e he
     simp at he
     subst he
     exact .inr ⟨r',r,rfl,hrr,λ _ => hns⟩
    ·cases ob <;> first | exact hr | exact absurd rfl (n1 _ _ _)
   cases h3 with
   | cells hc hz => simp at hr
   | map x => exact go (by simp) (by simp)
   | chan x => exact go (by simp) (by simp)
   | stringIter x y => exact go (by simp) (by simp)
   | mapIter x => exact go (by simp) (by simp)
   | number x => exact go (by simp) (by simp)
 | choose q k ih =>
  rintro R w W s' (hn | ⟨k',rfl,hk⟩) hw ht hr
  ·exact absurd hr (hn.no hw.np _ _)
  rw [Sem.run] at hr
  cases hq : q.forced with
  | true =>
   rw [hq] at hr
   simp only [if_true] at hr
   exact Ran.after (e₁:=#[]) (.refl hw) (by rw [Sem.run,hq]; simp) (λ es => by unfold Sem.events; rw [Sem.runT,hq]; simp) (λ e he => by simp at he) (ih 0 (hk 0) hw ht hr)
  | false =>
   rw [hq] at hr
   simp only [Bool.false_eq_true,if_false] at hr
   have ea : w.tape w.drawn q = W.tape W.drawn q:=ht 0 q
   rw [ea] at hr
   exact Ran.after (e₁:=#[]) (WStep.draw hw) (by rw [Sem.run,hq]; simp) (λ es => by unfold Sem.events; rw [Sem.runT,hq]; simp) (λ e he => by simp at he) (ih _ (hk _) (WStep.draw hw).rel (ht.step (WStep.draw hw)) hr)
 | sys c k ih =>
  rintro R w W s' (hn | h) hw ht hr
  ·exact absurd hr (hn.no hw.np _ _)
  ·exact h.elim
 | program k ih =>
  rintro R w W s' (hn | ⟨k',rfl,hk⟩) hw ht hr
  ·exact absurd hr (hn.no hw.np _ _)
  rw [Sem.run] at hr
  exact Ran.after (e₁:=#[]) (.refl hw) (by rw [Sem.run]) (λ es => by unfold Sem.events; rw [Sem.runT]; simp) (λ e he => by simp at he) (ih _ hk hw ht hr)
 | mark m k ih =>
  rintro R w W s' (hn | ⟨rfl,k',rfl,hk⟩) hw ht hr
  ·exact absurd hr (hn.no hw.np _ _)
  ·rw [Sem.run] at hr
   exact Ran.after (e₁:=#[⟨.mark .noRoom,false,true⟩]) (.refl hw) (by rw [Sem.run]) (λ es => by unfold Sem.events; rw [Sem.runT]; simp) (λ e he => by simp at he; exact .inl he) (ih hk hw ht hr)
 | halt h => rintro R w W s' _ hw ht hr; simp [Sem.run] at hr
end Go.Tt
namespace Go.Tt
section
variable {P : Pair} {S : FuncId -> Prop} {K : Pr} {α β γ δ : Type} {R : Pr}
abbrev EqA {α : Type} : Pr -> α -> α -> Prop:=λ _ a b => a = b
abbrev VA (S : FuncId -> Prop) (K : Pr) : Pr -> Value -> Value -> Prop:=λ R v v' => VR S K R v v'
theorem Sim.bnd {A : Pr -> α -> β -> Prop} {B : Pr -> γ -> δ -> Prop} {s : Sem α} {s' : Sem β} {f : α -> Sem γ} {f' : β -> Sem δ} (h : Sim P S K A s R s') (hf : ∀ R',Ext P K R R' -> ∀ a b,A R' a b -> Sim P S K B (f a) R' (f' b)) :
  Sim P S K B (s >>= f) R (s' >>= f'):=Sim.bind h hf
theorem Sim.ret {A : Pr -> α -> β -> Prop} {a : α} {b : β} (h : A R a b) : Sim P S K A (Pure.pure a : Sem α) R (Pure.pure b : Sem β):=Sim.pure h
theorem never_stuck {why : String} : Never P (stuck why : Sem α):=Never.halt trivial
theorem never_unsupported {u : Unsupported} (hu : TameH (.unsupported u):=by trivial) : Never P (unsupported u : Sem α):=Never.halt hu
theorem never_goPanic {v : Value} : Never P (goPanic v : Sem α):=Never.halt trivial
theorem Never.bnd {s : Sem α} (h : Never P s) (f : α -> Sem β) : Never P (s >>= f):=h.bind f
def Soft (P : Pair) (s : Sem α) : Prop:=∀ w,NoPend w -> (∃ a w',s.run P.g w = .ok a w' /\ NoPend w') \/ ∃ h w',s.run P.g w = .halt h w' /\ TameH h
theorem Soft.never {s : Sem α} (h : Never P s) : Soft P s:=λ w hw => .inr (h w hw)
theorem Soft.ret (a : α) : Soft P (Pure.pure a : Sem α):=λ w hw => .inl ⟨a,w,rfl,hw⟩
theorem Soft.bnd {s : Sem α} {f : α -> Sem β} (h : Soft P s) (hf : ∀ a,Soft P (f a)) : Soft P (s >>= f):=by
 intro w hw
 have e : (s >>= f).run P.g w = _:=Sem.run_bind' P.g s f w
 rcases h w hw with ⟨a,w',h1,h2⟩ | ⟨y,w',h1,h2⟩
 ·rcases hf a w' h2 with ⟨b,w2,h3,h4⟩ | ⟨y,w2,h3,h4⟩
  ·exact .inl ⟨b,w2,by rw [e,h1]; exact h3,h4⟩
  ·exact .inr ⟨y,w2,by rw [e,h1]; exact h3,h4⟩
 ·exact .inr ⟨y,w',by rw [e,h1]; rfl,h2⟩
theorem soft_program : Soft P program:=λ w hw => .inl ⟨P.g,w,rfl,hw⟩
theorem soft_choose (q : Question) : Soft P (choose q):=λ w hw => by
 unfold choose Sem.run
 split
 ·exact .inl ⟨0,w,rfl,hw⟩
 ·exact .inl ⟨_,_,rfl,hw⟩
theorem soft_shape (r : Nat) : Soft P (shape r):=λ w hw => .inl ⟨_,w,rfl,hw⟩
theorem soft_newObj {o : Obj} (ho : ∀ c e,o ≠ .pending c e) : Soft P (newObj o):=λ w hw => .inl ⟨_,_,rfl,NoPend.push hw ho⟩
theorem soft_underlying (t : TypeId) : Soft P (underlying t):=by
 unfold underlying
 refine soft_program.bnd λ p => ?_
 split
 ·exact Soft.ret _
 ·exact .never never_stuck
theorem soft_newVar (t : TypeId) (v : Value) : Soft P (newVar t v):=by
 unfold newVar newRow
 exact (soft_newObj (by simp)).bnd λ _ => Soft.ret _
theorem soft_elemOf (t : TypeId) : Soft P (elemOf t):=by
 unfold elemOf
 refine (soft_underlying t).bnd λ d => ?_
 split
 ·exact Soft.ret _
 ·exact .never never_stuck
theorem soft_frozen (a : Addr) : Soft P (frozen a):=λ w hw => .inl ⟨_,w,rfl,hw⟩
theorem soft_mark (m : Mark) : Soft P (mark m):=λ w hw => .inl ⟨_,w,rfl,hw⟩
theorem soft_holdsCells (a : Addr) (n : Nat) : Soft P (Builtin.holdsCells a n):=by
 unfold Builtin.holdsCells
 refine (soft_shape _).bnd λ x => ?_
 split <;> exact Soft.ret _
theorem soft_mayShare (size sLen n : Nat) (base : Option Addr) (x : Value) : Soft P (Builtin.mayShare size sLen n base x):=by
 unfold Builtin.mayShare
 have tail : ∀ b : Bool,Soft P (match x with
   | .slice (some b) _ _ => do pure (!(<- Builtin.holdsCells b (n * size)) || base.any (·.block == b.block))
   | _ => pure false : Sem Bool):=λ _ => by
  split
  ·exact (soft_holdsCells _ _).bnd λ _ => Soft.ret _
  ·exact Soft.ret _
 cases base with
 | none =>
  refine (Soft.ret true).bnd λ there => ?_
  cases there
  ·exact Soft.ret _
  ·exact tail true
 | some a =>
  refine (soft_holdsCells _ _).bnd λ h1 => (soft_frozen _).bnd λ h2 => ?_
  refine (Soft.ret _).bnd λ there => ?_
  cases there
  ·exact Soft.ret _
  ·exact tail true
theorem Never.then {s : Sem α} {f : α -> Sem β} (hs : Soft P s) (h : ∀ a,Never P (f a)) : Never P (s >>= f):=by
 intro w hw
 have e : (s >>= f).run P.g w = _:=Sem.run_bind' P.g s f w
 rcases hs w hw with ⟨a,w',h1,h2⟩ | ⟨y,w',h1,h2⟩
 ·obtain ⟨y,w2,h3,h4⟩:=h a w' h2
  exact ⟨y,w2,by rw [e,h1]; exact h3,h4⟩
 ·exact ⟨y,w',by rw [e,h1]; rfl,h2⟩
theorem never_runtimePanic {e : RuntimeError} : Never P (runtimePanic e : Sem α):=by
 unfold runtimePanic
 refine Never.then soft_program λ p => ?_
 cases e <;> first | exact never_goPanic | (refine Never.then (soft_elemOf _) λ _ => ?_; refine Never.then (soft_newVar _ _) λ _ => ?_; exact never_goPanic)
theorem never_boundsPanic {k : IntKind} {x y : Int} {c : BoundsCode} : Never P (boundsPanic k x y c : Sem α):=by
 unfold boundsPanic
 simp only
 split
 ·refine Never.then ?_ λ _ => never_runtimePanic
  exact (soft_choose _).bnd λ _ => Soft.ret _
 ·exact Never.then (Soft.ret _) λ _ => never_runtimePanic
theorem sim_program : Sim P S K (λ _ a b => a = P.g /\ b = P.c) program R program:=.inr ⟨_,rfl,.inr ⟨P.c,rfl,rfl,rfl⟩⟩
theorem sim_choose (q : Question) : Sim P S K EqA (choose q) R (choose q):=.inr ⟨_,rfl,λ n => .inr ⟨n,rfl,rfl⟩⟩
theorem sim_underlying (t : TypeId) : Sim P S K (λ _ a b => a = b /\ P.underlying t = some a) (underlying t) R (underlying t):=by
 unfold underlying
 refine Sim.bnd sim_program ?_
 rintro R' _ a b ⟨ha,hb⟩
 rw [ha,hb,P.underlying_g]
 cases h : P.c.underlying t with
 | some d => exact Sim.ret ⟨rfl,h⟩
 | none => exact .inl never_stuck
theorem sim_typeInfo (t : TypeId) : Sim P S K (λ _ a b => a = b /\ P.info? t = some a) (typeInfo t) R (typeInfo t):=by
 unfold typeInfo
 refine Sim.bnd sim_program ?_
 rintro R' _ a b ⟨ha,hb⟩
 rw [ha,hb,P.info_g]
 cases h : P.c.info? t with
 | some d => exact Sim.ret ⟨rfl,h⟩
 | none => exact .inl never_stuck
def ZeroOk (P : Pair) (S : FuncId -> Prop) : Prop:=∀ (K R : Pr) t i z,P.info? t = some i -> i.zero = some z -> VR S K R z z
theorem sim_zeroValue (hz : ZeroOk P S) (t : TypeId) : Sim P S K (VA S K) (zeroValue t) R (zeroValue t):=by
 unfold zeroValue
 refine Sim.bnd (sim_typeInfo t) ?_
 rintro R' _ a b ⟨rfl,h⟩
 cases h2 : a.zero with
 | some z => exact Sim.ret (hz K R' t a z h h2)
 | none => exact .inl never_unsupported
theorem sim_sizeOf (t : TypeId) : Sim P S K EqA (sizeOf t) R (sizeOf t):=by
 unfold sizeOf
 refine Sim.bnd (sim_typeInfo t) ?_
 rintro R' _ a b ⟨rfl,h⟩
 exact Sim.ret rfl
theorem sim_isAgg (t : TypeId) : Sim P S K EqA (isAgg t) R (isAgg t):=by
 unfold isAgg
 refine Sim.bnd (sim_underlying t) ?_
 rintro R' _ a b ⟨rfl,h⟩
 cases a <;> exact Sim.ret rfl
theorem sim_asIntOf {v v' : Value} (h : VR S K R v v') : Sim P S K EqA (asIntOf v) R (asIntOf v'):=by
 cases h with
 | int k n => exact Sim.ret rfl
 | pointer x => cases x <;> first | exact .inl never_unsupported | exact .inl never_stuck
 | _ => exact .inl never_stuck
theorem sim_asInt {v v' : Value} (h : VR S K R v v') : Sim P S K EqA (asInt v) R (asInt v'):=by
 unfold asInt
 refine Sim.bnd (sim_asIntOf h) ?_
 rintro R' _ a b rfl
 exact Sim.ret rfl
theorem sim_asBool {v v' : Value} (h : VR S K R v v') : Sim P S K EqA (asBool v) R (asBool v'):=by
 cases h with
 | bool b => exact Sim.ret rfl
 | _ => exact .inl never_stuck
theorem sim_asAgg {v v' : Value} (h : VR S K R v v') : Sim P S K (λ R a b => ArR S K R a b) (asAgg v) R (asAgg v'):=by
 cases h with
 | agg e h => exact Sim.ret ⟨e,h⟩
 | _ => exact .inl never_stuck
theorem sim_asAddr {v v' : Value} (h : VR S K R v v') : Sim P S K (λ R a b => AdR R a b) (asAddr v) R (asAddr v'):=by
 cases h with
 | pointer x =>
  cases x with
  | none => exact .inl (by unfold asAddr; exact never_runtimePanic)
  | some x => exact Sim.ret x
 | _ => exact .inl never_stuck
theorem sim_sureAddr {v v' : Value} (h : VR S K R v v') : Sim P S K (λ R a b => AdR R a b) (Instr.sureAddr v) R (Instr.sureAddr v'):=by
 cases h with
 | pointer x =>
  cases x with
  | none => exact .inl never_stuck
  | some x => exact Sim.ret x
 | _ => exact .inl never_stuck
theorem sim_load {a a' : Addr} (h : AdR R a a') : Sim P S K (VA S K) (load a) R (load a'):=.inr ⟨rfl,a',_,rfl,h,λ v v' hv => .inr ⟨v',rfl,hv⟩⟩
theorem sim_store {a a' : Addr} {v v' : Value} (h : AdR R a a') (hv : VR S K R v v') : Sim P S K EqA (store a v) R (store a' v'):=.inr ⟨rfl,a',v',_,rfl,h,hv,.inr ⟨(),rfl,rfl⟩⟩
theorem sim_newObj {o o' : Obj} (h : ObR S K R o o') : Sim P S K (λ R a b => R a b) (newObj o) R (newObj o'):=.inr ⟨o',_,rfl,h,λ n n' _ => .inr ⟨n',rfl,.inr ⟨rfl,rfl⟩⟩⟩
theorem sim_shape {r r' : Nat} (h : R r r') : Sim P S K EqA (shape r) R (shape r'):=.inr ⟨r',_,rfl,h,λ x => .inr ⟨x,rfl,rfl⟩⟩
theorem sim_getObj {r r' : Nat} (h : R r r') : Sim P S K (λ R o o' => ObR S K R o o') (getObj r) R (getObj r'):=.inr ⟨r',_,rfl,.inl h,λ o o' ho => .inr ⟨o',rfl,ho⟩⟩
theorem sim_setObj {r r' : Nat} {o o' : Obj} (h : R r r') (ho : ObR S K R o o') : Sim P S K EqA (setObj r o) R (setObj r' o'):=.inr ⟨r',o',_,rfl,.inl h,ho,.inr ⟨(),rfl,rfl⟩⟩
theorem sim_getObjK {r r' : Nat} (h : R.or K r r') : Sim P S K (λ R o o' => ObR S K R o o') (getObj r) R (getObj r'):=.inr ⟨r',_,rfl,h,λ o o' ho => .inr ⟨o',rfl,ho⟩⟩
theorem sim_setObjK {r r' : Nat} {o o' : Obj} (h : R.or K r r') (ho : ObR S K R o o') : Sim P S K EqA (setObj r o) R (setObj r' o'):=.inr ⟨r',o',_,rfl,h,ho,.inr ⟨(),rfl,rfl⟩⟩
theorem sim_askRoom (n : Nat) : Sim P S K EqA (askRoom n) R (askRoom n):=by
 unfold askRoom
 split
 ·exact .inr ⟨rfl,_,rfl,.inr ⟨(),rfl,rfl⟩⟩
 ·exact Sim.ret rfl
theorem AdR.add {a a' : Addr} (h : AdR R a a') (n : Nat) : AdR R (a.add n) (a'.add n):=by
 cases h with
 | mk h => unfold Addr.add; split <;> exact .mk h
theorem OaR.map {a a' : Option Addr} (h : OaR R a a') (n : Nat) : OaR R (a.map (·.add n)) (a'.map (·.add n)):=by
 cases h with
 | none => exact .none
 | some h => exact .some (h.add n)
theorem sim_loadCellsFrom {a a' : Addr} : ∀ (n i : Nat) {R : Pr} {acc acc' : Array Value},AdR R a a' -> ArR S K R acc acc' -> Sim P S K (λ R x y => ArR S K R x y) (loadCellsFrom a i n acc) R (loadCellsFrom a' i n acc')
 | 0,i,R,acc,acc',h,hc => Sim.ret hc
 | n + 1,i,R,acc,acc',h,hc => by
  unfold loadCellsFrom
  refine Sim.bnd (sim_load (h.add i)) ?_
  intro R' hR v v' hv
  exact sim_loadCellsFrom n (i + 1) (h.mono hR.le) ((hc.mono hR.le).push hv)
theorem sim_loadCells {a a' : Addr} (h : AdR R a a') (n : Nat) : Sim P S K (λ R x y => ArR S K R x y) (loadCells a n) R (loadCells a' n):=sim_loadCellsFrom n 0 h ArR.empty
def LsR (S : FuncId -> Prop) (K R : Pr) (xs xs' : List Value) : Prop:=xs.length = xs'.length /\ ∀ (i : Nat) (v v' : Value),xs[i]? = some v -> xs'[i]? = some v' -> VR S K R v v'
theorem ArR.toList {xs xs' : Array Value} (h : ArR S K R xs xs') : LsR S K R xs.toList xs'.toList:=⟨by simpa using h.1,λ i v v' h1 h2 => h.2 i v v' (by simpa using h1) (by simpa using h2)⟩
theorem LsR.mono {R' : Pr} (hR : R.le R') {xs xs' : List Value} (h : LsR S K R xs xs') : LsR S K R' xs xs':=⟨h.1,λ i v v' h1 h2 => (h.2 i v v' h1 h2).mono hR⟩
theorem LsR.cons {x x' : Value} {xs xs' : List Value} (h : LsR S K R (x :: xs) (x' :: xs')) : VR S K R x x' /\ LsR S K R xs xs':=
 ⟨h.2 0 x x' rfl rfl,by simpa using h.1,λ i v v' h1 h2 => h.2 (i + 1) v v' (by simpa using h1) (by simpa using h2)⟩
theorem sim_storeCells {a a' : Addr} : ∀ (vs vs' : List Value) (i : Nat) {R : Pr},AdR R a a' -> LsR S K R vs vs' -> Sim P S K EqA (storeCells a vs i) R (storeCells a' vs' i)
 | [],[],i,R,h,hv => Sim.ret rfl
 | [],_ :: _,i,R,h,hv => by have:=hv.1; simp at this
 | _ :: _,[],i,R,h,hv => by have:=hv.1; simp at this
 | v :: vs,v' :: vs',i,R,h,hv => by
  unfold storeCells
  obtain ⟨h1,h2⟩:=hv.cons
  refine Sim.bnd (sim_store (h.add i) h1) ?_
  intro R' hR _ _ _
  exact sim_storeCells vs vs' (i + 1) (h.mono hR.le) (h2.mono hR.le)
theorem sim_loadVar (t : TypeId) {a a' : Addr} (h : AdR R a a') : Sim P S K (VA S K) (loadVar t a) R (loadVar t a'):=by
 unfold loadVar
 refine Sim.bnd (sim_isAgg t) ?_
 rintro R1 h1 b _ rfl
 cases b with
 | true =>
  simp only [if_true]
  refine Sim.bnd (sim_sizeOf t) ?_
  rintro R2 h2 n _ rfl
  refine Sim.bnd (sim_loadCells ((h.mono h1.le).mono h2.le) n) ?_
  intro R3 h3 x y hxy
  exact Sim.ret (VR.agg' hxy)
 | false => simpa using sim_load (h.mono h1.le)
theorem sim_storeVar (t : TypeId) {a a' : Addr} {v v' : Value} (h : AdR R a a') (hv : VR S K R v v') : Sim P S K EqA (storeVar t a v) R (storeVar t a' v'):=by
 unfold storeVar
 refine Sim.bnd (sim_sizeOf t) ?_
 rintro R1 h1 n _ rfl
 have hc:=hv.cells
 rw [<- hc.1]
 split
 ·exact .inl (never_stuck.bnd _)
 ·exact sim_storeCells _ _ 0 (h.mono h1.le) ((hc.mono h1.le).toList)
theorem sim_newRow (e : TypeId) {c c' : Array Value} (h : ArR S K R c c') : Sim P S K (λ R a b => AdR R a b) (newRow e c) R (newRow e c'):=by
 unfold newRow
 refine Sim.bnd (sim_newObj (.cells h λ o ho => ho)) ?_
 intro R1 h1 n n' hn
 exact Sim.ret (.mk hn)
theorem sim_newVar (t : TypeId) {v v' : Value} (h : VR S K R v v') : Sim P S K (λ R a b => AdR R a b) (newVar t v) R (newVar t v'):=sim_newRow t h.cells
theorem sim_part (t : TypeId) {c c' : Array Value} (h : ArR S K R c c') (off : Nat) : Sim P S K (VA S K) (part t c off) R (part t c' off):=by
 unfold part
 refine Sim.bnd (sim_isAgg t) ?_
 rintro R1 h1 b _ rfl
 cases b with
 | true =>
  simp only [if_true]
  refine Sim.bnd (sim_sizeOf t) ?_
  rintro R2 h2 n _ rfl
  exact Sim.ret (VR.agg' (((h.mono h1.le).mono h2.le).extract _ _))
 | false =>
  simp only [Bool.false_eq_true,if_false]
  cases hc : c[off]? with
  | none => exact .inl never_stuck
  | some v => obtain ⟨v',hv',hvv⟩:=(h.mono h1.le).get hc; rw [hv']; exact Sim.ret hvv
end
end Go.Tt
namespace Go.Tt
section
variable {P : Pair} {S : FuncId -> Prop} {K : Pr} {α β γ δ : Type} {R : Pr}
theorem sim_alloc (hz : ZeroOk P S) (e : TypeId) : Sim P S K (VA S K) (Instr.alloc e true (.tuple #[])) R (Instr.alloc e true (.tuple #[])):=by
 unfold Instr.alloc
 refine Sim.bnd (sim_zeroValue hz e) ?_
 intro R1 h1 z z' hzz
 refine Sim.bnd (sim_newVar e hzz) ?_
 intro R2 h2 a a' ha
 exact Sim.ret (.pointer (.some ha))
theorem sim_box (e : TypeId) {v v' : Value} (h : VR S K R v v') : Sim P S K (VA S K) (Instr.box e v) R (Instr.box e v'):=by
 unfold Instr.box
 refine Sim.bnd (sim_newVar e h) ?_
 intro R2 h2 a a' ha
 exact Sim.ret (.pointer (.some ha))
theorem sim_loadAt (t : TypeId) {v v' : Value} (h : VR S K R v v') : Sim P S K (VA S K) (Instr.loadAt t v) R (Instr.loadAt t v'):=by
 unfold Instr.loadAt
 refine Sim.bnd (sim_sureAddr h) ?_
 intro R1 h1 a a' ha
 exact sim_loadVar t ha
theorem sim_storeAt (t : TypeId) {a a' v v' : Value} (h : VR S K R a a') (hv : VR S K R v v') : Sim P S K EqA (Instr.storeAt t a v) R (Instr.storeAt t a' v'):=by
 unfold Instr.storeAt
 refine Sim.bnd (sim_sureAddr h) ?_
 intro R1 h1 a a' ha
 exact sim_storeVar t ha (hv.mono h1.le)
theorem sim_viewAt {r r' : Nat} (h : R r r') : Sim P S K (λ _ a b => a = none /\ b = none) (viewAt r) R (viewAt r'):=by
 unfold viewAt
 refine Sim.bnd (sim_shape h) ?_
 rintro R1 h1 x _ rfl
 cases x with
 | some x => exact Sim.ret ⟨rfl,rfl⟩
 | none =>
  refine Sim.bnd (sim_getObj (h1.le _ _ h)) ?_
  intro R2 h2 o o' ho
  cases ho <;> exact Sim.ret ⟨rfl,rfl⟩
theorem sim_noView {a a' : Addr} (h : AdR R a a') : Sim P S K EqA (noView a) R (noView a'):=by
 cases h with
 | mk h =>
  unfold noView
  refine Sim.bnd (sim_viewAt h) ?_
  rintro R1 h1 _ _ ⟨rfl,rfl⟩
  exact Sim.ret rfl
theorem sim_byteOf {a a' : Addr} (h : AdR R a a') : Sim P S K EqA (byteOf a) R (byteOf a'):=by
 have h0:=h
 cases h with
 | mk h =>
  rename_i b b' o sp
  unfold byteOf
  cases sp with
  | some s => exact Sim.ret rfl
  | none =>
   refine Sim.bnd sim_program ?_
   rintro R1 h1 p q ⟨rfl,rfl⟩
   refine Sim.bnd (sim_noView (h0.mono h1.le)) ?_
   rintro R2 h2 _ _ _
   refine Sim.bnd (sim_shape (h2.le _ _ (h1.le _ _ h))) ?_
   rintro R3 h3 x _ rfl
   cases x with
   | none => exact .inl never_stuck
   | some x =>
    obtain ⟨e,n⟩:=x
    simp only [P.cells_g,P.bytes_g,P.depth_g,P.byteOfCell_g]
    split
    ·exact Sim.ret rfl
    ·split
     ·exact Sim.ret rfl
     ·exact .inl never_stuck
theorem sim_partAt {a a' : Addr} (h : AdR R a a') (c b : Nat) : Sim P S K (λ R a b => AdR R a b) (partAt a c b) R (partAt a' c b):=by
 unfold partAt
 refine Sim.bnd (sim_byteOf h) ?_
 rintro R1 h1 n _ rfl
 have h':=h.mono h1.le
 cases h' with
 | mk h' =>
  refine Sim.bnd (sim_byteOf (.mk h')) ?_
  rintro R2 h2 m _ rfl
  split <;> exact Sim.ret (.mk (h2.le _ _ h'))
theorem sim_fieldPlace {a a' : Addr} (h : AdR R a a') (f : Field) : Sim P S K (λ R a b => AdR R a b) (fieldPlace a f) R (fieldPlace a' f):=by
 unfold fieldPlace
 refine Sim.bnd (sim_sizeOf f.type) ?_
 rintro R1 h1 n _ rfl
 split
 ·exact sim_partAt (h.mono h1.le) _ _
 ·exact Sim.ret ((h.mono h1.le).add _)
theorem sim_fieldAt (s : TypeId) {v v' : Value} (h : VR S K R v v') (f : Nat) : Sim P S K (VA S K) (Instr.fieldAt s v f) R (Instr.fieldAt s v' f):=by
 unfold Instr.fieldAt
 refine Sim.bnd (sim_underlying s) ?_
 rintro R1 h1 d _ ⟨rfl,hd⟩
 cases d with
 | struct fields =>
  simp only
  cases hf : fields[f]? with
  | none => exact .inl never_stuck
  | some fl =>
   refine Sim.bnd (sim_sureAddr (h.mono h1.le)) ?_
   intro R2 h2 a a' ha
   refine Sim.bnd (sim_fieldPlace ha fl) ?_
   intro R3 h3 b b' hb
   exact Sim.ret (.pointer (.some hb))
 | _ => exact .inl never_stuck
theorem sim_field (t : TypeId) {v v' : Value} (h : VR S K R v v') (f : Nat) : Sim P S K (VA S K) (Instr.field t v f) R (Instr.field t v' f):=by
 unfold Instr.field
 refine Sim.bnd (sim_underlying t) ?_
 rintro R1 h1 d _ ⟨rfl,hd⟩
 cases d with
 | struct fields =>
  simp only
  cases hf : fields[f]? with
  | none => exact .inl never_stuck
  | some fl =>
   refine Sim.bnd (sim_asAgg (h.mono h1.le)) ?_
   intro R2 h2 a a' ha
   exact sim_part _ ha _
 | _ => exact .inl never_stuck
def indexTail (t : TypeId) (k : IntKind) (i : Int) (b : Option Addr) (len : Nat) (elem : TypeId) : Sem Value:=do
 let tiny:=len <= 1 && (match <- underlying t with | .array .. => true | _ => false)
 match b with
 | some a =>
  if 0 <= i /\ i < len then pure (.pointer (some (a.add (i.toNat * (<- sizeOf elem)))))
  else if tiny then unsupported (.noEntry "op/indexAddr.an index out of range at an array of length 0 or 1 (ledger 616)")
  else boundsPanic k i len .index
 | none => boundsPanic k i 0 .index
theorem sim_indexTail (t : TypeId) (k : IntKind) (i : Int) {b b' : Option Addr} (h : OaR R b b') (len : Nat) (elem : TypeId) : Sim P S K (VA S K) (indexTail t k i b len elem) R (indexTail t k i b' len elem):=by
 unfold indexTail
 refine Sim.bnd (sim_underlying t) ?_
 rintro R3 h3 d _ ⟨rfl,hd⟩
 have hb':=h.mono h3.le
 cases hb' with
 | none => exact .inl never_boundsPanic
 | some ha =>
  simp only
  split
  ·refine Sim.bnd (sim_sizeOf elem) ?_
   rintro R4 h4 sz _ rfl
   exact Sim.ret (.pointer (.some ((ha.mono h4.le).add _)))
  ·refine .inl ?_
   split <;> first | exact never_unsupported | exact never_boundsPanic | (split <;> first | exact never_unsupported | exact never_boundsPanic)
theorem sim_indexAt (t : TypeId) {v v' i i' : Value} (h : VR S K R v v') (hi : VR S K R i i') : Sim P S K (VA S K) (Instr.indexAt t v i) R (Instr.indexAt t v' i'):=by
 unfold Instr.indexAt
 refine Sim.bnd (sim_asIntOf hi) ?_
 rintro R1 h1 ⟨k,n⟩ _ rfl
 refine Sim.bnd (sim_underlying t) ?_
 rintro R2 h2 d _ ⟨rfl,hd⟩
 have hv:=(h.mono h1.le).mono h2.le
 cases d with
 | array len elem =>
  refine Sim.bnd (sim_sureAddr hv) ?_
  intro R3 h3 a a' ha
  exact sim_indexTail t k n (.some ha) len elem
 | slice elem =>
  cases hv with
  | slice ho => exact sim_indexTail t k n ho _ elem
  | _ => exact .inl (never_stuck.bnd _)
 | _ => exact .inl (never_stuck.bnd _)
theorem sim_index (t : TypeId) {v v' i i' : Value} (h : VR S K R v v') (hi : VR S K R i i') : Sim P S K (VA S K) (Instr.index t v i) R (Instr.index t v' i'):=by
 unfold Instr.index
 refine Sim.bnd (sim_asIntOf hi) ?_
 rintro R1 h1 ⟨k,n⟩ _ rfl
 refine Sim.bnd (sim_underlying t) ?_
 rintro R2 h2 d _ ⟨rfl,hd⟩
 have hv:=(h.mono h1.le).mono h2.le
 cases d with
 | array len elem =>
  cases hv with
  | agg e hc =>
   simp only
   split
   ·refine Sim.bnd (sim_sizeOf elem) ?_
    rintro R3 h3 sz _ rfl
    exact sim_part elem (ArR.mono h3.le ⟨e,hc⟩) _
   ·exact .inl never_boundsPanic
  | _ => exact .inl never_stuck
 | string =>
  cases hv with
  | string s =>
   simp only
   split
   ·exact Sim.ret (.int _ _)
   ·exact .inl never_boundsPanic
  | _ => exact .inl never_stuck
 | _ => exact .inl never_stuck
theorem sim_sliceBound {v v' : Value} (h : VR S K R v v') (y : Nat) (c : BoundsCode) : Sim P S K EqA (Instr.sliceBound v y c) R (Instr.sliceBound v' y c):=by
 unfold Instr.sliceBound
 refine Sim.bnd (sim_asIntOf h) ?_
 rintro R1 h1 ⟨k,n⟩ _ rfl
 simp only
 split
 ·exact Sim.ret rfl
 ·exact .inl never_boundsPanic
inductive OvR (S : FuncId -> Prop) (K R : Pr) : Option Value -> Option Value -> Prop
 | none : OvR S K R none none
 | some {v v' : Value} : VR S K R v v' -> OvR S K R (some v) (some v')
theorem OvR.mono {R' : Pr} (h : R.le R') {v v' : Option Value} (x : OvR S K R v v') : OvR S K R' v v':=by cases x with | none => exact .none | some x => exact .some (x.mono h)
theorem sim_sliceBounds (b : Bool) (len cap : Nat) {lo lo' hi hi' mx mx' : Option Value} (hl : OvR S K R lo lo') (hh : OvR S K R hi hi') (hm : OvR S K R mx mx') :
  Sim P S K EqA (Instr.sliceBounds b len cap lo hi mx) R (Instr.sliceBounds b len cap lo' hi' mx'):=by
 have nd : ∀ {R1 : Pr},Ext P K R R1 -> ∀ (m h : Nat) (c : BoundsCode),Sim P S K (EqA (α:=Nat × Nat × Nat)) (match lo with | some v => (do let l <- Instr.sliceBound v h c; pure (l,h,m)) | none => pure (0,h,m)) R1 (match lo' with | some v => (do let l <- Instr.sliceBound v h c; pure (l,h,m)) | none => pure (0,h,m)):=by
  intro R1 h1 m h c
  cases hl with
  | none => exact Sim.ret rfl
  | some z =>
   refine Sim.bnd (sim_sliceBound (z.mono h1.le) h c) ?_
   rintro R2 h2 l _ rfl
   exact Sim.ret rfl
 unfold Instr.sliceBounds
 cases hm with
 | none =>
  cases hh with
  | none => cases hl with
   | none => exact Sim.ret rfl
   | some z => exact nd (Ext.refl R) cap len (if (none : Option Value).isSome then .slice3C else .sliceB)
  | some x =>
   refine Sim.bind (α:=Nat) (A:=EqA) (s:=Instr.sliceBound _ cap (if b then .sliceAcap else .sliceAlen)) (s':=Instr.sliceBound _ cap (if b then .sliceAcap else .sliceAlen)) (sim_sliceBound x _ _) ?_
   rintro R2 h2 h _ rfl
   cases hl with
   | none => exact Sim.ret rfl
   | some z => exact nd h2 cap h (if (none : Option Value).isSome then .slice3C else .sliceB)
 | some y =>
  refine Sim.bnd (sim_sliceBound y _ _) ?_
  rintro R1 h1 m _ rfl
  cases hh with
  | none => exact .inl (never_stuck.bnd _)
  | some x =>
   refine Sim.bnd (sim_sliceBound (x.mono h1.le) _ _) ?_
   rintro R2 h2 h _ rfl
   cases hl with
   | none => exact Sim.ret rfl
   | some z =>
    refine Sim.bnd (sim_sliceBound ((z.mono h1.le).mono h2.le) _ _) ?_
    rintro R3 h3 l _ rfl
    exact Sim.ret rfl
theorem sim_slice (t : TypeId) {v v' : Value} {lo lo' hi hi' mx mx' : Option Value} (h : VR S K R v v') (hl : OvR S K R lo lo') (hh : OvR S K R hi hi') (hm : OvR S K R mx mx') :
  Sim P S K (VA S K) (Instr.slice t v lo hi mx) R (Instr.slice t v' lo' hi' mx'):=by
 unfold Instr.slice
 refine Sim.bnd (sim_underlying t) ?_
 rintro R1 h1 d _ ⟨rfl,hd⟩
 have hv:=h.mono h1.le
 cases d with
 | string =>
  cases hv with
  | string s =>
   simp only
   cases hm with
   | some y => exact .inl (never_stuck.bnd _)
   | none =>
    refine Sim.bnd (sim_sliceBounds _ _ _ (hl.mono h1.le) (hh.mono h1.le) .none) ?_
    rintro R2 h2 ⟨l,h,m⟩ _ rfl
    exact Sim.ret (.string _)
  | _ => exact .inl never_stuck
 | slice elem =>
  cases hv with
  | slice ho =>
   refine Sim.bnd (sim_sliceBounds _ _ _ (hl.mono h1.le) (hh.mono h1.le) (hm.mono h1.le)) ?_
   rintro R2 h2 ⟨l,h,m⟩ _ rfl
   refine Sim.bnd (sim_sizeOf elem) ?_
   rintro R3 h3 sz _ rfl
   refine Sim.ret (.slice ?_)
   split
   ·exact (ho.mono h2.le).mono h3.le
   ·exact ((ho.mono h2.le).mono h3.le).map _
  | _ => exact .inl never_stuck
 | pointer arr =>
  refine Sim.bnd (sim_asAddr hv) ?_
  intro R2 h2 a a' ha
  refine Sim.bnd (sim_underlying arr) ?_
  rintro R3 h3 d _ ⟨rfl,hd⟩
  cases d with
  | array n elem =>
   refine Sim.bnd (sim_sliceBounds _ _ _ (((hl.mono h1.le).mono h2.le).mono h3.le) (((hh.mono h1.le).mono h2.le).mono h3.le) (((hm.mono h1.le).mono h2.le).mono h3.le)) ?_
   rintro R4 h4 ⟨l,h,m⟩ _ rfl
   refine Sim.bnd (sim_sizeOf elem) ?_
   rintro R5 h5 sz _ rfl
   refine Sim.ret (.slice (.some ?_))
   have ha':=((ha.mono h3.le).mono h4.le).mono h5.le
   split
   ·exact ha'
   ·exact ha'.add _
  | _ => exact .inl never_stuck
 | _ => exact .inl never_stuck
theorem sim_sliceAt (t : TypeId) {v v' : Value} {lo lo' hi hi' mx mx' : Option Value} (h : VR S K R v v') (hl : OvR S K R lo lo') (hh : OvR S K R hi hi') (hm : OvR S K R mx mx') :
  Sim P S K (VA S K) (Instr.sliceAt t v lo hi mx) R (Instr.sliceAt t v' lo' hi' mx'):=by
 unfold Instr.sliceAt
 refine Sim.bnd (sim_underlying t) ?_
 rintro R1 h1 d _ ⟨rfl,hd⟩
 cases d with
 | array n elem =>
  refine Sim.bnd (sim_sureAddr (h.mono h1.le)) ?_
  intro R2 h2 a a' ha
  refine Sim.bnd (sim_sliceBounds _ _ _ ((hl.mono h1.le).mono h2.le) ((hh.mono h1.le).mono h2.le) ((hm.mono h1.le).mono h2.le)) ?_
  rintro R4 h4 ⟨l,h,m⟩ _ rfl
  refine Sim.bnd (sim_sizeOf elem) ?_
  rintro R5 h5 sz _ rfl
  refine Sim.ret (.slice (.some ?_))
  have ha':=(ha.mono h4.le).mono h5.le
  split
  ·exact ha'
  ·exact ha'.add _
 | _ => exact sim_slice t (h.mono h1.le) (hl.mono h1.le) (hh.mono h1.le) (hm.mono h1.le)
theorem sim_extract {v v' : Value} (h : VR S K R v v') (i : Nat) : Sim P S K (VA S K) (Instr.extract v i) R (Instr.extract v' i):=by
 unfold Instr.extract
 cases h with
 | tuple e hc =>
  rename_i xs xs'
  simp only
  cases hq : xs[i]? with
  | none => exact .inl never_stuck
  | some u =>
   obtain ⟨u',hu',huu⟩:=ArR.get ⟨e,hc⟩ hq
   rw [hu']
   exact Sim.ret huu
 | _ => exact .inl never_stuck
theorem sim_makeMap (t : TypeId) {r r' : Option Value} (h : OvR S K R r r') : Sim P S K (VA S K) (Instr.makeMap t r) R (Instr.makeMap t r'):=by
 have fin : ∀ {R1 : Pr},Sim P S K (VA S K) (do pure (.map (some (<- newObj (.map #[] 0))))) R1 (do pure (.map (some (<- newObj (.map #[] 0))))):=by
  intro R1
  refine Sim.bnd (sim_newObj (.map ⟨rfl,λ i e e' h => by simp at h⟩)) ?_
  intro R2 h2 n n' hn
  exact Sim.ret (.map (.some hn))
 unfold Instr.makeMap
 cases h with
 | none => exact fin
 | some x =>
  refine Sim.bnd (sim_underlying t) ?_
  rintro R1 h1 d _ ⟨rfl,hd⟩
  cases d with
  | map k e =>
   refine Sim.bnd (sim_asInt (x.mono h1.le)) ?_
   rintro R2 h2 n _ rfl
   exact fin
  | _ => exact .inl (never_stuck.bnd _)
theorem sim_makeChan (t : TypeId) {v v' : Value} (h : VR S K R v v') : Sim P S K (VA S K) (Instr.makeChan t v) R (Instr.makeChan t v'):=by
 unfold Instr.makeChan
 refine Sim.bnd (sim_asInt h) ?_
 rintro R1 h1 n _ rfl
 refine Sim.bnd (sim_underlying t) ?_
 rintro R2 h2 d _ ⟨rfl,hd⟩
 cases d with
 | chan dir elem =>
  refine Sim.bnd (sim_typeInfo elem) ?_
  rintro R3 h3 inf _ ⟨rfl,hi⟩
  simp only
  split
  ·exact .inl (never_runtimePanic.bnd _)
  ·refine Sim.bnd (sim_newObj (.chan ArR.empty)) ?_
   intro R4 h4 n n' hn
   exact Sim.ret (.chan (.some (.inl hn)))
 | _ => exact .inl never_stuck
end
end Go.Tt
