/-
 Part 8 of what stands behind the last text.
-/
import Derived.Conc.WgGenN3
import Derived.Test.YtkfafknliihabaaDoorDdsPq7
set_option linter.unusedSectionVars false
set_option linter.unusedSimpArgs false
set_option linter.unusedVariables false
namespace Go.Mt
open Go.Conc Go.Tt
structure Dk where
 ds : List Deferred
 kd : CallKind
 ok : kd ≠ .early
abbrev Dk.nil : Dk:=⟨[],.normal,by simp⟩
def Dk.base (d : Dk) (fn : FuncId) : Frame:={ (default : Frame) with fn:=fn,kind:=d.kd }
def fx (k : List Item) (d : Dk) (m : Fm) : Frame:={ m.fr with todo:=m.todo ++ k,defers:=d.ds,kind:=d.kd }
theorem fx_nil (m : Fm) : fx [] .nil m = m.fr:=by unfold fx; simp [Fm.fr]
theorem runS_fx {p : Program} {main : Bool} {m m' : Fm} {ms ms' : List Fm} {w w' : World} (hr : m.ret = false) {k : List Item} (hne : m.todo = [] -> k = []) (h : (runS p m ms).run p w = .ok (m',ms') w') (d : Dk) (CS : List Frame) :
  (ms' = ms /\ stepG p main (G (fx k d m) CS) w = .go (G (fx k d m') CS) w' (seen p m.fn ((runS p m ms).events p w #[]))) \/
  (ms' = m :: ms /\ stepG p main (G (fx k d m) CS) w = .go (G m'.fr (fx k d m :: CS)) w' (seen p m.fn ((runS p m ms).events p w #[]))) \/ CommStep p m m' ms ms' w w':=by
 have none0 : seen p m.fn #[] = #[]:=Conc.seen_none p _
 obtain ⟨fn,tmps,todo,ret⟩:=m
 simp only at hr none0 hne ⊢
 subst hr
 unfold runS at h ⊢
 simp only at h ⊢
 split at h
 all_goals first
  | (simp [stuck,Sem.run] at h; done)
  | (
    obtain rfl:=hne rfl
    simp only [Pure.pure,Sem.run,Result.ok.injEq,Prod.mk.injEq] at h
    obtain ⟨⟨rfl,rfl⟩,rfl⟩:=h
    refine .inl ⟨rfl,?_⟩
    simp [G,stepG,stepG.exec,Fm.fr,fx,none0,GStep.after]
    done)
  | (
    simp only [Pure.pure,Sem.run,Result.ok.injEq,Prod.mk.injEq] at h
    obtain ⟨⟨rfl,rfl⟩,rfl⟩:=h
    refine .inl ⟨rfl,?_⟩
    simp [G,stepG,stepG.exec,Fm.fr,fx,none0,GStep.after]
    done)
  | skip
 case h_8 _ c a b k0 =>
  generalize hv : Fm.eval { fn:=fn,tmps:=tmps,todo:=Item.code (Code.cond c a b) :: k0,ret:=false } c = v at h ⊢
  have hc : Frame.eval { fn:=fn,tmps:=tmps,todo:=Item.code (Code.cond c a b) :: (k0 ++ k),defers:=d.ds,mode:=.run,kind:=d.kd } c = v:=by rw [<- hv]; cases c <;> rfl
  cases v with
  | bool t =>
   simp only [Pure.pure,Sem.run,Result.ok.injEq,Prod.mk.injEq] at h
   obtain ⟨⟨rfl,rfl⟩,rfl⟩:=h
   refine .inl ⟨rfl,?_⟩
   simp [G,stepG,stepG.exec,Fm.fr,fx,none0,hc]
  | _ => simp [stuck,Sem.run] at h
 case h_13 _ id k0 =>
  cases he : exitTo id k0 with
  | some k' =>
   rw [he] at h
   simp only [Pure.pure,Sem.run,Result.ok.injEq,Prod.mk.injEq] at h
   obtain ⟨⟨rfl,rfl⟩,rfl⟩:=h
   refine .inl ⟨rfl,?_⟩
   simp [G,stepG,stepG.exec,Fm.fr,fx,none0,exitTo_app k he]
  | none => rw [he] at h; simp [stuck,Sem.run] at h
 case h_14 _ id ops draw k0 =>
  cases draw with
  | true =>
   simp [choose,Sem.run,Question.forced,Question.cut,bind,Sem.bind,pure] at h
   obtain ⟨⟨rfl,rfl⟩,rfl⟩:=h
   refine .inl ⟨rfl,?_⟩
   simp [G,stepG,stepG.exec,Fm.fr,fx,none0,choose,Sem.run,Question.forced,Question.cut,Sem.events,Sem.runT,bind,Sem.bind,pure]
  | false =>
   simp only [Bool.false_eq_true,if_false,Pure.pure,Sem.run,Result.ok.injEq,Prod.mk.injEq] at h
   obtain ⟨⟨rfl,rfl⟩,rfl⟩:=h
   refine .inl ⟨rfl,?_⟩
   simp [G,stepG,stepG.exec,Fm.fr,fx,none0]
 case h_16 _ ops i rest k0 =>
  have hae : ∀ x,Act.eval ⟨tmps,d.ds⟩ x = Fm.eval { fn:=fn,tmps:=tmps,todo:=Item.inRegion ops (i :: rest) :: k0,ret:=false } x:=λ x => by cases x <;> rfl
  have hae' : Act.eval ⟨tmps,d.ds⟩ = Fm.eval { fn:=fn,tmps:=tmps,todo:=Item.inRegion ops (i :: rest) :: k0,ret:=false }:=funext hae
  have hfin : ∀ v,(d.base fn).at (Act.put ⟨tmps,d.ds⟩ ((ops[i]?).bind (·.dst)) v) (.inRegion ops rest :: (k0 ++ k)) = fx k d (Fm.fin { fn:=fn,tmps:=tmps,todo:=Item.inRegion ops (i :: rest) :: k0,ret:=false } ops i rest k0 v):=λ v => by
   unfold Fm.fin Act.put fx
   cases (ops[i]?).bind (·.dst) <;> rfl
  have hb : (d.base fn).kind ≠ .early:=d.ok
  have hfx : fx k d { fn:=fn,tmps:=tmps,todo:=Item.inRegion ops (i :: rest) :: k0,ret:=false } = (d.base fn).at ⟨tmps,d.ds⟩ (.inRegion ops (i :: rest) :: (k0 ++ k)):=rfl
  rw [hfx]
  cases ho : ops[i]? with
  | none =>
   rw [ho] at h
   simp only [Option.map_none,Option.getD_none,Bool.false_eq_true,if_false,Pure.pure,Sem.run,Result.ok.injEq,Prod.mk.injEq] at h
   obtain ⟨⟨rfl,rfl⟩,rfl⟩:=h
   refine .inl ⟨rfl,?_⟩
   rw [<- hfin undef]
   have hff : ((d.base fn).at ⟨tmps,d.ds⟩ (.inRegion ops (i :: rest) :: (k0 ++ k))).finish undef = (d.base fn).at (Act.put ⟨tmps,d.ds⟩ ((ops[i]?).bind (·.dst)) undef) (.inRegion ops rest :: (k0 ++ k)):=Frame.finish_at _ _ _ _ _ _ _
   rw [<- hff]
   simp [G,stepG,stepG.exec,none0,ho,Frame.at]
  | some o =>
   rw [ho] at h
   simp only [ho,Option.bind_some] at hfin
   simp only [Option.map_some,Option.getD_some] at h ⊢
   by_cases hw : Region.wanted o (yielded ops tmps) = true
   ·rw [if_pos hw] at h
    rw [if_pos hw]
    have hrb:=Sem.run_bind' p (execOp (Fm.eval { fn:=fn,tmps:=tmps,todo:=Item.inRegion ops (i :: rest) :: k0,ret:=false }) o) (opS p { fn:=fn,tmps:=tmps,todo:=Item.inRegion ops (i :: rest) :: k0,ret:=false } ms ops i rest k0) w
    have h':=hrb.symm.trans h
    have hevb:=Sem.events_bind' p (execOp (Fm.eval { fn:=fn,tmps:=tmps,todo:=Item.inRegion ops (i :: rest) :: k0,ret:=false }) o) (opS p { fn:=fn,tmps:=tmps,todo:=Item.inRegion ops (i :: rest) :: k0,ret:=false } ms ops i rest k0) w #[]
    cases hx : (execOp (Fm.eval { fn:=fn,tmps:=tmps,todo:=Item.inRegion ops (i :: rest) :: k0,ret:=false }) o).run p w with
    | halt y w1 => rw [hx] at h'; cases h'
    | ok n w1 =>
     rw [hx] at h' hevb
     have hx' : (execOp (Act.eval ⟨tmps,d.ds⟩) o).run p w = .ok n w1:=by rw [hae']; exact hx
     have hl : Conc.listed p fn ⟨tmps,d.ds⟩ o w = seen p fn ((execOp (Fm.eval { fn:=fn,tmps:=tmps,todo:=Item.inRegion ops (i :: rest) :: k0,ret:=false }) o).events p w #[]):=by unfold Conc.listed; rw [hae']
     have h2 : (opS p { fn:=fn,tmps:=tmps,todo:=Item.inRegion ops (i :: rest) :: k0,ret:=false } ms ops i rest k0 n).run p w1 = .ok (m',ms') w':=h'
     have fine : ∀ (r : Fm × List Fm),opS p { fn:=fn,tmps:=tmps,todo:=Item.inRegion ops (i :: rest) :: k0,ret:=false } ms ops i rest k0 n = Pure.pure r ->
       (m',ms') = r /\ w' = w1 /\ seen p fn ((do let n <- execOp (Fm.eval { fn:=fn,tmps:=tmps,todo:=Item.inRegion ops (i :: rest) :: k0,ret:=false }) o; opS p { fn:=fn,tmps:=tmps,todo:=Item.inRegion ops (i :: rest) :: k0,ret:=false } ms ops i rest k0 n : Sem (Fm × List Fm)).events p w #[]) = Conc.listed p fn ⟨tmps,d.ds⟩ o w:=λ r e => by
      rw [e] at h2
      simp only [Pure.pure,Sem.run,Result.ok.injEq] at h2
      refine ⟨h2.1.symm,h2.2.symm,?_⟩
      rw [hl]
      congr 1
      refine hevb.trans ?_
      rw [Result.evThen_ok,e]; rfl
     cases n with
     | value v =>
      obtain ⟨e1,rfl,e3⟩:=fine _ rfl
      injection e1 with e1 e2
      subst e1 e2
      refine .inl ⟨rfl,?_⟩
      rw [e3]
      have:=Conc.stepG_value (main:=main) (b:=d.base fn) (a:=⟨tmps,d.ds⟩) (rest:=rest) (k:=k0 ++ k) (cs:=CS) ho hw hb hx'
      rw [hfin] at this
      exact this
     | skip =>
      obtain ⟨e1,rfl,e3⟩:=fine _ rfl
      injection e1 with e1 e2
      subst e1 e2
      refine .inl ⟨rfl,?_⟩
      rw [e3]
      have:=Conc.stepG_none (main:=main) (b:=d.base fn) (a:=⟨tmps,d.ds⟩) (rest:=rest) (k:=k0 ++ k) (cs:=CS) ho hw hb hx'
      rw [hfin] at this
      exact this
     | enter f args =>
      have h3:=h2
      simp only [opS] at h3
      cases hf : p.funcs[f]? with
      | none => rw [hf] at h3; simp [stuck,Sem.run] at h3
      | some fn2 =>
       cases hbd : fn2.body with
       | none => rw [hf] at h3; simp only [hbd] at h3; simp [stuck,Sem.run] at h3
       | some c =>
        obtain ⟨e1,rfl,e3⟩:=fine _ (by simp only [opS,hf,hbd]; rfl)
        injection e1 with e1 e2
        subst e1 e2
        refine .inr (.inl ⟨rfl,?_⟩)
        rw [e3]
        have:=Conc.stepG_enter (main:=main) (b:=d.base fn) (a:=⟨tmps,d.ds⟩) (rest:=rest) (k:=k0 ++ k) (cs:=CS) ho hw hb hx'
        rw [enter_fr hf hbd] at this
        exact this
     | comm cs b sh =>
      cases b with
      | true => simp [opS,stuck,Sem.run] at h2
      | false =>
       have h3:=h2
       simp only [opS] at h3
       have h4:=(Sem.run_bind' p _ _ w1).symm.trans h3
       cases hcm : (commS cs sh).run p w1 with
       | halt y w2 => rw [hcm] at h4; cases h4
       | ok v w2 =>
        rw [hcm] at h4
        simp only [Result.andThen,Pure.pure,Sem.run,Result.ok.injEq,Prod.mk.injEq] at h4
        obtain ⟨⟨rfl,rfl⟩,rfl⟩:=h4
        exact .inr (.inr ⟨ops,i,rest,k0,o,cs,sh,v,w1,rfl,rfl,ho,hw,hx,hcm,rfl,rfl⟩)
     | _ => simp [opS,stuck,Sem.run] at h2
   ·rw [if_neg hw] at h
    rw [if_neg hw]
    simp only [Pure.pure,Sem.run,Result.ok.injEq,Prod.mk.injEq] at h
    obtain ⟨⟨rfl,rfl⟩,rfl⟩:=h
    refine .inl ⟨rfl,?_⟩
    have:=Conc.stepG_unwanted (P:=p) (main:=main) (b:=d.base fn) (a:=⟨tmps,d.ds⟩) (rest:=rest) (k:=k0 ++ k) (cs:=CS) (w:=w) ho (by simpa using hw)
    rw [hfin] at this
    rw [show seen p fn (Sem.events p (Pure.pure (Fm.fin { fn:=fn,tmps:=tmps,todo:=Item.inRegion ops (i :: rest) :: k0,ret:=false } ops i rest k0 undef,ms) : Sem (Fm × List Fm)) w #[]) = #[] from none0]
    exact this
theorem retS_fx {p : Program} {main : Bool} {m c m' : Fm} {rest ms' : List Fm} {w w' : World} (hr : m.ret = true) (hc : c.ret = false) (h : (retS p m (c :: rest)).run p w = .ok (m',ms') w') (k : List Item) (d : Dk) (CS : List Frame) :
  ms' = rest /\ w' = w /\ (∃ ops i r k0 v,c.todo = .inRegion ops (i :: r) :: k0 /\ m' = c.fin ops i r k0 v) /\ stepG p main (G m.fr (fx k d c :: CS)) w = .go (G (fx k d m') CS) w' (seen p m.fn ((retS p m (c :: rest)).events p w #[])):=by
 obtain ⟨ops,i,r,k0,v,fn,hct,hf,hv,rfl,rfl⟩:=retS_inv h
 obtain ⟨rfl,_⟩:=tf_resS _ _ w v w' hv
 refine ⟨rfl,rfl,⟨ops,i,r,k0,v,hct,rfl⟩,?_⟩
 rw [(retS_mk hct hf hv).2]
 have he : results fn m.tmps = resS fn.results.toList m.tmps:=results_resS (resS_plain hv)
 have hfin : (fx k d c).finish v = fx k d (c.fin ops i r k0 v):=by
  simp only [Frame.finish,fx,Fm.fr,Fm.fin,hct,List.cons_append]
  cases (ops[i]?).bind (·.dst) <;> rfl
 rw [Fm.fr_ret hr,<- hfin]
 simp [G,stepG,unwind,doReturn,hf,he,hv,GStep.after]
def low (k : List Item) (d : Dk) : Fm -> List Fm -> List Frame
 | c,[] => [fx k d c]
 | c,e :: cs => c.fr :: low k d e cs
def stk (k : List Item) (d : Dk) (base : List Frame) (m : Fm) : List Fm -> Goroutine
 | [] => G (fx k d m) base
 | c :: cs => G m.fr (low k d c cs ++ base)
theorem stk_status (k : List Item) (d : Dk) (base : List Frame) (m : Fm) (ms : List Fm) : (stk k d base m ms).status = .running:=by cases ms <;> rfl
theorem stk_step {p : Program} {main : Bool} {m m' : Fm} {ms ms' : List Fm} {w w' : World} {k : List Item} {d : Dk} {base : List Frame} (hs : m.ret = true -> ms ≠ []) (hne : ms = [] -> m.ret = false -> m.todo ≠ []) (hw : ∀ c ∈ ms,c.ret = false)
  (h : (stepS p m ms).run p w = .ok (m',ms') w') : (∃ es,stepG p main (stk k d base m ms) w = .go (stk k d base m' ms') w' es /\ ∀ e ∈ es,e ∈ seen p m.fn ((stepS p m ms).events p w #[])) \/ CommStep p m m' ms ms' w w':=by
 cases hr : m.ret with
 | false =>
  simp only [stepS,hr,Bool.false_eq_true,if_false] at h ⊢
  cases ms with
  | nil =>
   rcases runS_fx (main:=main) hr (k:=k) (λ e => absurd e (hne rfl hr)) h d base with ⟨rfl,e⟩ | ⟨rfl,e⟩ | e
   ·exact .inl ⟨_,e,λ _ x => x⟩
   ·exact .inl ⟨_,e,λ _ x => x⟩
   ·exact .inr e
  | cons c cs =>
   rcases runS_fx (main:=main) hr (k:=[]) (λ _ => rfl) h .nil (low k d c cs ++ base) with ⟨rfl,e⟩ | ⟨rfl,e⟩ | e
   ·simp only [fx_nil] at e
    exact .inl ⟨_,e,λ _ x => x⟩
   ·simp only [fx_nil] at e
    exact .inl ⟨_,e,λ _ x => x⟩
   ·exact .inr e
 | true =>
  simp only [stepS,hr,if_true] at h ⊢
  cases ms with
  | nil => exact absurd rfl (hs hr)
  | cons c cs =>
   have hcr:=hw c (List.mem_cons_self ..)
   cases cs with
   | nil =>
    obtain ⟨rfl,rfl,_,e⟩:=retS_fx (main:=main) hr hcr h k d base
    exact .inl ⟨_,e,λ _ x => x⟩
   | cons c2 cs =>
    obtain ⟨rfl,rfl,_,e⟩:=retS_fx (main:=main) hr hcr h [] .nil (low k d c2 cs ++ base)
    simp only [fx_nil] at e
    exact .inl ⟨_,e,λ _ x => x⟩
theorem fx_comm {p : Program} {main : Bool} {m : Fm} {w wm : World} {ops : Array Oper} {i : Nat} {rest : List Nat} {k0 : List Item} {o : Oper} {cs : Array CommCase} {sh : CommShape} (hr : m.ret = false) (htd : m.todo = .inRegion ops (i :: rest) :: k0) (ho : ops[i]? = some o)
  (hw : Region.wanted o (yielded ops m.tmps) = true) (hx : (execOp m.eval o).run p w = .ok (.comm cs false sh) wm) (v : Value) (k : List Item) (d : Dk) (CS : List Frame) :
  stepG p main (G (fx k d m) CS) w = .comm (G (fx k d m) CS) cs false sh wm (seen p m.fn ((execOp m.eval o).events p w #[])) /\ Conc.served (G (fx k d m) CS) v = G (fx k d (m.fin ops i rest k0 v)) CS:=by
 obtain ⟨fn,tmps,todo,ret⟩:=m
 simp only at hr htd hw
 subst hr htd
 refine ⟨?_,?_⟩
 ·have hae' : Act.eval ⟨tmps,d.ds⟩ = Fm.eval { fn:=fn,tmps:=tmps,todo:=Item.inRegion ops (i :: rest) :: k0,ret:=false }:=funext λ x => by cases x <;> rfl
  have:=Conc.stepG_comm (P:=p) (main:=main) (b:=d.base fn) (a:=⟨tmps,d.ds⟩) (rest:=rest) (k:=k0 ++ k) (cs:=CS) (w:=w) ho hw d.ok (by rw [hae']; exact hx)
  unfold Conc.listed at this
  rw [hae'] at this
  exact this
 ·have hfin : (fx k d ⟨fn,tmps,Item.inRegion ops (i :: rest) :: k0,false⟩).finish v = fx k d (Fm.fin ⟨fn,tmps,Item.inRegion ops (i :: rest) :: k0,false⟩ ops i rest k0 v):=by
   simp only [Frame.finish,fx,Fm.fr,Fm.fin,List.cons_append]
   cases (ops[i]?).bind (·.dst) <;> rfl
  rw [<- hfin]
  rfl
theorem stk_comm {p : Program} {main : Bool} {m : Fm} {ms : List Fm} {w wm : World} {ops : Array Oper} {i : Nat} {rest : List Nat} {k0 : List Item} {o : Oper} {cs : Array CommCase} {sh : CommShape} (hr : m.ret = false) (htd : m.todo = .inRegion ops (i :: rest) :: k0) (ho : ops[i]? = some o)
  (hw : Region.wanted o (yielded ops m.tmps) = true) (hx : (execOp m.eval o).run p w = .ok (.comm cs false sh) wm) (v : Value) (k : List Item) (d : Dk) (base : List Frame) :
  stepG p main (stk k d base m ms) w = .comm (stk k d base m ms) cs false sh wm (seen p m.fn ((execOp m.eval o).events p w #[])) /\ Conc.served (stk k d base m ms) v = stk k d base (m.fin ops i rest k0 v) ms:=by
 cases ms with
 | nil => exact fx_comm hr htd ho hw hx v k d base
 | cons c cs' =>
  have:=fx_comm (main:=main) hr htd ho hw hx v [] .nil (low k d c cs' ++ base)
  simp only [fx_nil] at this
  exact this
def codeNo (S : List Nat) : Code -> Bool
 | .skip | .ret | .exit _ | .label _ => true
 | .region _ ops _ => ops.all λ o => match o.dst with | some s => !S.contains s | none => true
 | .seq a b => codeNo S a && codeNo S b
 | .cond _ a b => codeNo S a && codeNo S b
 | .block _ c | .loop c | .scope c => codeNo S c
 | _ => false
def itemNo (S : List Nat) : Item -> Bool
 | .code c | .inLoop c | .inScope c => codeNo S c
 | .inBlock _ => true
 | .inRegion ops _ => ops.all λ o => match o.dst with | some s => !S.contains s | none => true
 | _ => false
def lastOf : Fm -> List Fm -> Fm
 | m,[] => m
 | _,c :: cs => lastOf c cs
structure Pins (S : List Nat) (m m' : Fm) : Prop where
 no : ∀ i ∈ m'.todo,itemNo S i = true
 at_ : ∀ s ∈ S,m'.tmps.getD s undef = m.tmps.getD s undef
theorem fin_pins {S : List Nat} {m : Fm} {ops : Array Oper} {i : Nat} {rest : List Nat} {k : List Item} (h : m.todo = .inRegion ops (i :: rest) :: k) (hn : ∀ i ∈ m.todo,itemNo S i = true) (v : Value) : Pins S m (m.fin ops i rest k v):=by
 have hx:=hn (.inRegion ops (i :: rest)) (by rw [h]; exact List.mem_cons_self ..)
 refine ⟨λ j hj => ?_,λ s hs => ?_⟩
 ·simp only [Fm.fin,List.mem_cons] at hj
  rcases hj with rfl | hj
  ·exact hx
  ·exact hn j (by rw [h]; exact List.mem_cons_of_mem _ hj)
 ·unfold Fm.fin
  simp only
  cases hd : (ops[i]?).bind (·.dst) with
  | none => rfl
  | some q =>
   obtain ⟨o,ho,hq⟩:=Option.bind_eq_some_iff.1 hd
   simp only [itemNo,Array.all_eq_true_iff_forall_mem] at hx
   have h1:=hx o (Array.mem_of_getElem? ho)
   rw [hq] at h1
   simp only [Bool.not_eq_true',List.contains_eq_mem,decide_eq_false_iff_not] at h1
   have hne : q ≠ s:=λ e => h1 (e ▸ hs)
   simp only [Array.getD_eq_getD_getElem?,Array.getElem?_setIfInBounds_ne hne]
theorem exitTo_no {S : List Nat} {id : Nat} {k k' : List Item} (h : exitTo id k = some k') (hn : ∀ i ∈ k,itemNo S i = true) : ∀ i ∈ k',itemNo S i = true:=λ i hi => hn i (exitTo_mem h i hi)
theorem runS_pins {p : Program} {S : List Nat} {m m' : Fm} {ms ms' : List Fm} {w w' : World} (hn : ∀ i ∈ m.todo,itemNo S i = true) (h : (runS p m ms).run p w = .ok (m',ms') w') : (ms' = ms /\ Pins S m m') \/ ms' = m :: ms:=by
 obtain ⟨fn,tmps,todo,ret⟩:=m
 simp only at hn
 unfold runS at h
 simp only at h
 split at h
 all_goals first
  | (simp [stuck,Sem.run] at h; done)
  | (
    simp only [Pure.pure,Sem.run,Result.ok.injEq,Prod.mk.injEq] at h
    obtain ⟨⟨rfl,rfl⟩,rfl⟩:=h
    refine .inl ⟨rfl,⟨?_,λ _ _ => rfl⟩⟩
    simp only [List.mem_cons,forall_eq_or_imp,itemNo,codeNo,Bool.and_eq_true] at hn ⊢
    grind)
  | skip
 case h_8 _ c a b k0 =>
  split at h
  ·simp only [Pure.pure,Sem.run,Result.ok.injEq,Prod.mk.injEq] at h
   obtain ⟨⟨rfl,rfl⟩,rfl⟩:=h
   refine .inl ⟨rfl,⟨?_,λ _ _ => rfl⟩⟩
   simp only [List.mem_cons,forall_eq_or_imp,itemNo,codeNo,Bool.and_eq_true] at hn ⊢
   refine ⟨?_,hn.2⟩
   split
   ·exact hn.1.1
   ·exact hn.1.2
  ·simp [stuck,Sem.run] at h
 case h_13 _ id k0 =>
  split at h
  ·next k' he =>
   simp only [Pure.pure,Sem.run,Result.ok.injEq,Prod.mk.injEq] at h
   obtain ⟨⟨rfl,rfl⟩,rfl⟩:=h
   refine .inl ⟨rfl,⟨exitTo_no he λ i hi => hn i (List.mem_cons_of_mem _ hi),λ _ _ => rfl⟩⟩
  ·simp [stuck,Sem.run] at h
 case h_14 _ id ops draw k0 =>
  cases draw with
  | true =>
   simp only [if_true] at h
   have h2:=(Sem.run_bind' p (choose (.order fn id)) _ w).symm.trans h
   cases hc : (choose (.order fn id)).run p w with
   | ok t w2 =>
    rw [hc] at h2
    simp only [Result.andThen,Pure.pure,Sem.run,Result.ok.injEq,Prod.mk.injEq] at h2
    obtain ⟨⟨rfl,rfl⟩,rfl⟩:=h2
    refine .inl ⟨rfl,⟨?_,λ _ _ => rfl⟩⟩
    simp only [List.mem_cons,forall_eq_or_imp,itemNo,codeNo] at hn ⊢
    exact hn
   | halt y w2 => rw [hc] at h2; cases h2
  | false =>
   simp only [Bool.false_eq_true,if_false,Pure.pure,Sem.run,Result.ok.injEq,Prod.mk.injEq] at h
   obtain ⟨⟨rfl,rfl⟩,rfl⟩:=h
   refine .inl ⟨rfl,⟨?_,λ _ _ => rfl⟩⟩
   simp only [List.mem_cons,forall_eq_or_imp,itemNo,codeNo] at hn ⊢
   exact hn
 case h_16 _ ops i rest k0 =>
  have hfin:=λ v => fin_pins (S:=S) (m:=⟨fn,tmps,.inRegion ops (i :: rest) :: k0,ret⟩) rfl hn v
  split at h
  ·split at h
   ·next o ho =>
    have h2:=(Sem.run_bind' p _ _ w).symm.trans h
    cases hc : (execOp (Fm.eval { fn:=fn,tmps:=tmps,todo:=Item.inRegion ops (i :: rest) :: k0,ret:=ret }) o).run p w with
    | halt y w2 => rw [hc] at h2; cases h2
    | ok n w2 =>
     rw [hc] at h2
     simp only [Result.andThen] at h2
     cases n with
     | value v =>
      simp only [opS,Pure.pure,Sem.run,Result.ok.injEq,Prod.mk.injEq] at h2
      obtain ⟨⟨rfl,rfl⟩,rfl⟩:=h2
      exact .inl ⟨rfl,hfin v⟩
     | skip =>
      simp only [opS,Pure.pure,Sem.run,Result.ok.injEq,Prod.mk.injEq] at h2
      obtain ⟨⟨rfl,rfl⟩,rfl⟩:=h2
      exact .inl ⟨rfl,hfin undef⟩
     | enter f args =>
      simp only [opS] at h2
      split at h2
      ·split at h2
       ·simp only [Pure.pure,Sem.run,Result.ok.injEq,Prod.mk.injEq] at h2
        obtain ⟨⟨rfl,rfl⟩,rfl⟩:=h2
        exact .inr rfl
       ·simp [stuck,Sem.run] at h2
      ·simp [stuck,Sem.run] at h2
     | comm cs b sh =>
      cases b with
      | true => simp [opS,stuck,Sem.run] at h2
      | false =>
       have h3:=h2
       simp only [opS] at h3
       have h4:=(Sem.run_bind' p _ _ w2).symm.trans h3
       cases hcm : (commS cs sh).run p w2 with
       | halt y w3 => rw [hcm] at h4; cases h4
       | ok v w3 =>
        rw [hcm] at h4
        simp only [Result.andThen,Pure.pure,Sem.run,Result.ok.injEq,Prod.mk.injEq] at h4
        obtain ⟨⟨rfl,rfl⟩,rfl⟩:=h4
        exact .inl ⟨rfl,hfin v⟩
     | _ => simp [opS,stuck,Sem.run] at h2
   ·simp [stuck,Sem.run] at h
  ·simp only [Pure.pure,Sem.run,Result.ok.injEq,Prod.mk.injEq] at h
   obtain ⟨⟨rfl,rfl⟩,rfl⟩:=h
   exact .inl ⟨rfl,hfin undef⟩
theorem Pins.refl {S : List Nat} {m : Fm} (h : ∀ i ∈ m.todo,itemNo S i = true) : Pins S m m:=⟨h,λ _ _ => rfl⟩
theorem stepS_pins {p : Program} {S : List Nat} {m m' : Fm} {ms ms' : List Fm} {w w' : World} (hn : ∀ i ∈ (lastOf m ms).todo,itemNo S i = true) (h : (stepS p m ms).run p w = .ok (m',ms') w') : Pins S (lastOf m ms) (lastOf m' ms'):=by
 cases hr : m.ret with
 | false =>
  simp only [stepS,hr,Bool.false_eq_true,if_false] at h
  cases ms with
  | nil =>
   rcases runS_pins (S:=S) hn h with ⟨rfl,e⟩ | rfl
   ·exact e
   ·exact Pins.refl hn
  | cons c cs =>
   rcases runS_fn h with ⟨rfl,_⟩ | rfl
   ·exact Pins.refl hn
   ·exact Pins.refl hn
 | true =>
  simp only [stepS,hr,if_true] at h
  cases ms with
  | nil => simp [retS,stuck,Sem.run] at h
  | cons c cs =>
   obtain ⟨ops,i,r,k0,v,fn,hct,hf,hv,rfl,rfl⟩:=retS_inv h
   cases ms' with
   | nil => exact fin_pins hct hn v
   | cons d ds => exact Pins.refl hn
end Go.Mt
namespace Go.Mt
open Go.Conc Go.Tt
open Go.ConcR (KK wgBlock WgAt stA smA rd wr)
def EvQ (O Z : Nat -> Prop) (e : Event) : Prop:=e = ⟨.mark .noRoom,false,true⟩ \/ ∃ b,evBlock e = some b /\ (O b \/ (Z b /\ e.write = false))
theorem evT_of_evQ {Wg : Nat} {main : Bool} {O Z : Nat -> Prop} {e : Event} (h : EvQ O Z e) : EvT Wg main O Z e:=by
 rcases h with rfl | ⟨b,h1,h2⟩
 ·trivial
 ·obtain ⟨loc,wr,sy⟩:=e
  cases loc with
  | cell x => simp only [evBlock,Option.some.injEq] at h1; subst h1; exact h2
  | obj r => simp only [evBlock,Option.some.injEq] at h1; subst h1; exact h2
  | _ => simp [evBlock] at h1
theorem evQ_quiet {O Z : Nat -> Prop} {e : Event} (h : EvQ O Z e) : e.loc ≠ .mark .disable /\ e.loc ≠ .mark .enable:=by
 rcases h with rfl | ⟨b,h1,_⟩
 ·exact ⟨by simp,by simp⟩
 ·obtain ⟨loc,wr,sy⟩:=e
  cases loc <;> simp [evBlock] at h1 ⊢
theorem evQ_of_evOk {St : Nat -> Prop} {R : Pr} {τ : Terr} {e : Event} (h : EvOk R St e) (ht : Terra τ R St) : EvQ τ.own τ.still e:=by
 rcases h with rfl | ⟨b,a,h1,h2,h3⟩
 ·exact .inl rfl
 ·refine .inr ⟨b,h1,?_⟩
  by_cases hs : St a
  ·refine .inr ⟨(ht a b h2).1 hs,?_⟩
   cases hw : e.write
   ·rfl
   ·exact absurd hs (h3 hw)
  ·exact .inl ((ht a b h2).2 hs)
def OwnQ (p : Program) (ty : TypeId) (Wg : Nat) (main : Bool) (B : Terr -> Goroutine -> World -> Prop) (τ : Terr) (g : Goroutine) (w : World) : Prop:=
 ∀ w₁,Suf ty Wg τ w w₁ -> (∃ g' w' es,stepG p main g w₁ = .go g' w' es /\ g'.status = .running /\ Gua τ.own w₁ w' /\ (∀ e ∈ es,EvQ (τ.grow w₁ w').own τ.still e) /\ B (τ.grow w₁ w') g' w') \/
  ∃ cs sh v wm w' es,stepG p main g w₁ = .comm g cs false sh wm es /\ (Tt.commS cs sh).run p wm = .ok v w' /\ (∀ c ∈ cs.toList,∀ r,c.chan = .chan (some r) -> (τ.grow w₁ w').own r) /\ wm.heap.size <= w'.heap.size /\ Gua τ.own w₁ w' /\
   (∀ e ∈ es,EvQ (τ.grow w₁ w').own τ.still e) /\ B (τ.grow w₁ w') (Conc.served g v) w'
structure Cx (L : Type) where
 p : Program
 gs : FuncId -> Bool
 fs : FuncId -> Bool
 ty : TypeId
 Wg : Nat
 A : Proto L
 Fin : Goroutine -> World -> Prop
 main : Bool
 base : List Frame
 ds : Dk
 K : Pr
 St : Nat -> Prop
 I : Pr -> Terr -> World -> Prop
 pin : List (Nat × Value)
 alone : Option (Terr -> Goroutine -> World -> Prop):=none
 aok : ∀ B,alone = some B -> ∀ τ g w,g.status = .running -> OwnQ p ty Wg main B τ g w -> B τ g w:=by intro _ h; cases h
variable {L : Type}
abbrev Cx.P (C : Cx L) : Pair:=PS C.p C.gs
abbrev Cx.Rel (C : Cx L) (R : Pr) (w W : World) : Prop:=WRel (SF C.fs) C.K R (prGp C.p) C.St w W
def Cx.B (C : Cx L) (l : L) (τ : Terr) (g : Goroutine) (w : World) : Prop:=
 match C.alone with
 | none => BehE C.p C.ty C.Wg C.A C.Fin C.main (.usr l) 0 τ g w
 | some B => B τ g w
theorem Cx.B_none {C : Cx L} (h : C.alone = none) (l : L) (τ : Terr) (g : Goroutine) (w : World) : C.B l τ g w = BehE C.p C.ty C.Wg C.A C.Fin C.main (.usr l) 0 τ g w:=by unfold Cx.B; rw [h]
theorem Cx.B_some {C : Cx L} {B : Terr -> Goroutine -> World -> Prop} (h : C.alone = some B) (l : L) (τ : Terr) (g : Goroutine) (w : World) : C.B l τ g w = B τ g w:=by unfold Cx.B; rw [h]
theorem Cx.ownQ {C : Cx L} {l : L} {τ : Terr} {g : Goroutine} {w : World} (hrun : g.status = .running) (h : OwnQ C.p C.ty C.Wg C.main (C.B l) τ g w) : C.B l τ g w:=by
 cases ha : C.alone with
 | none =>
  rw [Cx.B_none ha]
  have hB : ∀ τ g w,C.B l τ g w -> BehE C.p C.ty C.Wg C.A C.Fin C.main (.usr l) 0 τ g w:=λ τ g w x => by rw [Cx.B_none ha] at x; exact x
  refine BehE.ownC hrun trivial λ w₁ s => ?_
  rcases h w₁ s with ⟨g',w',es,h1,h2,h3,h4,h5⟩ | ⟨cs,sh,v,wm,w',es,h1,h2,h3,h4,h5,h6,h7⟩
  ·refine .inl ⟨g',w',es,h1,h2,h3,λ e he => evT_of_evQ (h4 e he),?_⟩
   rw [deafBehind_still (λ e he => evQ_quiet (h4 e he))]
   exact hB _ _ _ h5
  ·refine .inr ⟨cs,sh,v,wm,w',es,h1,h2,h3,h4,h5,λ e he => evT_of_evQ (h6 e he),?_⟩
   rw [deafBehind_still (λ e he => evQ_quiet (h6 e he))]
   exact hB _ _ _ h7
 | some B =>
  rw [Cx.B_some ha]
  refine C.aok B ha τ g w hrun λ w₁ s => ?_
  have e : ∀ τ g w,C.B l τ g w -> B τ g w:=λ τ g w x => by rw [Cx.B_some ha] at x; exact x
  rcases h w₁ s with ⟨g',w',es,h1,h2,h3,h4,h5⟩ | ⟨cs,sh,v,wm,w',es,h1,h2,h3,h4,h5,h6,h7⟩
  ·exact .inl ⟨g',w',es,h1,h2,h3,h4,e _ _ _ h5⟩
  ·exact .inr ⟨cs,sh,v,wm,w',es,h1,h2,h3,h4,h5,h6,e _ _ _ h7⟩
abbrev Cx.S (C : Cx L) : List Nat:=C.pin.map (·.1)
structure FmW (C : Cx L) (R : Pr) (m m' : Fm) : Prop where
 fn : m.fn = m'.fn
 todo : m.todo = m'.todo
 ret : m.ret = m'.ret
 tmps : ArR (SF C.fs) C.K R m.tmps m'.tmps
 pins : ∀ x ∈ C.pin,m'.tmps.getD x.1 undef = x.2
structure Rs (St : Nat -> Prop) (R : Pr) (W : World) (R1 : Pr) (W1 : World) : Prop where
 le : R.le R1
 tape : W1.tape = W.tape
 os : W1.os = W.os
 output : W1.output = W.output
 size : W.heap.size <= W1.heap.size
 new : ∀ a b,R1 a b -> R a b \/ (W.heap.size <= b /\ b < W1.heap.size)
 keep : ∀ b,b < W.heap.size -> (∀ a,R a b -> St a) -> W1.heap[b]? = W.heap[b]?
structure IOk (C : Cx L) : Prop where
 suf : ∀ R τ W W₁,C.I R τ W -> Suf C.ty C.Wg τ W W₁ -> C.I R τ W₁
 step : ∀ R τ W R1 W1,C.I R τ W -> Terra τ R C.St -> Rs C.St R W R1 W1 -> C.I R1 (τ.grow W W1) W1
def BO (C : Cx L) (l : L) (m : Fm) (w : World) : Prop:=
 ∀ (R : Pr) (W : World) (m' : Fm) (τ : Terr),C.Rel R w W -> FmW C R m m' -> Terra τ R C.St -> C.I R τ W -> C.B l τ (G (fx [] C.ds m') C.base) W
section
variable {C : Cx L} {l : L}
theorem BO.tape {m : Fm} {w : World} (h : BO C l m w) (T : Tape) (e : Nat) : BO C l m (Tt.tp w T e):=
 λ R W m' τ a b c d => h R W m' τ a.untp b c d
theorem BO.untape {m : Fm} {w : World} {T : Tape} {e : Nat} (h : BO C l m (Tt.tp w T e)) : BO C l m w:=
 λ R W m' τ a b c d => h R W m' τ ⟨a.inj,a.inj',a.lt,a.low,a.gle,a.cont,a.rest,a.st,a.np,a.tb⟩ b c d
theorem MsR.wait {P : Pair} {fs : FuncId -> Bool} {K R : Pr} {ms ms' : List Fm} (h : MsR P fs K R ms ms') : ∀ c ∈ ms',c.ret = false:=by
 induction h with
 | nil => intro c hc; cases hc
 | cons a b _ ih =>
  intro c hc
  rcases List.mem_cons.1 hc with rfl | hc
  ·exact a.ret.symm.trans b.1
  ·exact ih c hc
theorem tree_beh (F : Fit3 C.P C.fs) (hI : IOk C) {k : List Item} {Q : Fm -> World -> Prop} {fn0 : FuncId} {m : Fm} {ms : List Fm} {w : World} (h : Tt.LT C.p Q m ms w)
  (hn : ∀ (x : Fm) (wT : World),x.fn = fn0 -> x.ret = false -> x.todo = [] -> (∀ T,Q { x with ret:=true } (Tt.tp wT T 0)) -> BO C l ⟨fn0,x.tmps,k,false⟩ wT)
  (hr : ∀ (x : Fm) (wT : World),x.fn = fn0 -> x.ret = true -> x.todo ≠ [] -> Q x wT -> BO C l ⟨fn0,x.tmps,x.todo ++ k,true⟩ wT) :
  ∀ (R : Pr) (W : World) (m' : Fm) (ms' : List Fm) (τ : Terr),lastFn m ms = fn0 -> (ms = [] -> m.ret = true -> m.todo ≠ []) -> C.Rel R w W -> FmR C.P C.fs C.K R m m' -> MsR C.P C.fs C.K R ms ms' -> Terra τ R C.St -> C.I R τ W ->
   (∀ x ∈ C.pin,(lastOf m' ms').tmps.getD x.1 undef = x.2) -> (∀ i ∈ (lastOf m' ms').todo,itemNo C.S i = true) -> C.B l τ (stk k C.ds C.base m' ms') W:=by
 induction h with
 | stop h1 h2 =>
  rename_i m w
  intro R W m' ms' τ hl hz hw hm hms ht hi hpin hno
  cases hms
  have hB:=hr m w hl h1 (hz rfl h1) h2 R W { m' with todo:=m'.todo ++ k } τ hw ⟨(hl.symm.trans hm.fn : _),by show m.todo ++ k = _; rw [hm.todo],h1.symm.trans hm.ret,hm.tmps,hpin⟩ ht hi
  have : fx [] C.ds { m' with todo:=m'.todo ++ k } = fx k C.ds m':=by unfold fx; simp [Fm.fr]
  rw [this] at hB
  exact hB
 | step nx hs hrun hlt ih =>
  rename_i m ms w
  intro R W m' ms' τ hl hz hw hm hms ht hi hpin hno
  by_cases hend : ms = [] /\ m.ret = false /\ m.todo = []
  ·obtain ⟨rfl,h1,h2⟩:=hend
   cases hms
   have hQ : ∀ T,Q { m with ret:=true } (Tt.tp w T 0):=λ T => by
    have hT:=hrun T
    have e : (stepS C.p m []).run C.p (Tt.tp w T 0) = .ok ({ m with ret:=true },[]) (Tt.tp w T 0):=by simp [stepS,h1,runS,h2,Pure.pure,Sem.run]
    rw [e] at hT
    injection hT with e1 e2
    have hl:=hlt T
    rw [<- e1,<- e2] at hl
    exact hl.ret_inv rfl
   have hB:=hn m w hl h1 h2 hQ R W { m' with todo:=m'.todo ++ k } τ hw ⟨(hl.symm.trans hm.fn : _),by show k = m'.todo ++ k; rw [<- hm.todo,h2]; rfl,h1.symm.trans hm.ret,hm.tmps,hpin⟩ ht hi
   have : fx [] C.ds { m' with todo:=m'.todo ++ k } = fx k C.ds m':=by unfold fx; simp [Fm.fr]
   rw [this] at hB
   exact hB
  ·refine Cx.ownQ (stk_status ..) λ W₁ s => ?_
   have hw₁:=wrel_suf hw ht (λ a b x => (hw.lt a b (.inr x)).2) s
   have hi₁:=hI.suf _ _ _ _ hi s
   let T : Tape:=λ n q => W₁.tape (W₁.drawn + n) q
   have hw₂ : C.Rel R (Tt.tp w T 0) W₁:=⟨hw₁.inj,hw₁.inj',hw₁.lt,hw₁.low,hw₁.gle,hw₁.cont,hw₁.rest,hw₁.st,hw₁.np,hw₁.tb⟩
   have htp : Tp (Tt.tp w T 0) W₁:=λ n q => by show W₁.tape (W₁.drawn + (0 + n)) q = _; rw [Nat.zero_add]
   have hrel : RelS C.P C.fs C.K (prGp C.p) C.St m ms (Tt.tp w T 0):=⟨R,W₁,m',ms',hw₂,hm,hms⟩
   obtain ⟨R1,x',W1,ev,e1,e2,e3,e4,e5⟩:=Sim.run rfl _ (sim_stepS (l:=false) F.toFit2 (hw₂.relOk rfl) hm hms (λ e => by cases e) hs) hw₂ htp (hrun T)
   replace e2:=e2.resolve_right λ x => by
    obtain ⟨f,_,_,_,_,_,_,ho,_⟩:=x.2
    rw [F.none] at ho; cases ho
   obtain ⟨m1',ms1'⟩:=x'
   have hs' : m'.ret = true -> ms' ≠ []:=λ e e2 => hs (hm.ret.trans e) (by cases hms with | nil => rfl | cons _ _ _ => cases e2)
   have hne' : ms' = [] -> m'.ret = false -> m'.todo ≠ []:=λ a b c => hend ⟨(by cases hms with | nil => rfl | cons _ _ _ => cases a),hm.ret.trans b,hm.todo.trans c⟩
   have hpn:=stepS_pins (S:=C.S) hno e1
   have hev : (stepS C.p m' ms').events C.p W₁ #[] = ev:=by rw [e4]; simp
   have hsz : W₁.heap.size <= W1.heap.size:=e3.size.2
   have hnew : ∀ a b,R1 a b -> R a b \/ (W₁.heap.size <= b /\ b < W1.heap.size):=λ a b x => by
    rcases e3.new a b x with y | ⟨_,y⟩
    ·exact .inl y
    ·exact .inr ⟨y,(e3.rel.ltR a b x).2⟩
   have ht1 : Terra (τ.grow W₁ W1) R1 C.St:=λ a b x => by
    rcases e3.new a b x with y | ⟨y1,y2⟩
    ·exact ⟨(ht a b y).1,λ z => .inl ((ht a b y).2 z)⟩
    ·refine ⟨λ z => ?_,λ _ => .inr ⟨y2,(e3.rel.ltR a b x).2⟩⟩
     obtain ⟨⟨b',hb'⟩,_⟩:=hw₂.st a z
     have:=(hw₂.ltR a b' hb').1
     omega
   have hg : Gua τ.own W₁ W1:=⟨e3.tape.2,e3.os.2,e3.out.2,hsz,λ b hb hno => e3.keep b hb λ a x => Classical.byContradiction λ z => hno ((ht a b x).2 z)⟩
   have hi1:=hI.step R τ W₁ R1 W1 hi₁ ht ⟨e3.le,e3.tape.2,e3.os.2,e3.out.2,hsz,hnew,e3.keep⟩
   have hlf : lastFn (nx T).1.1 (nx T).1.2 = fn0:=(stepS_lastFn (m1:=(nx T).1.1) (ms1:=(nx T).1.2) (hrun T)).trans hl
   have goal : C.B l (τ.grow W₁ W1) (stk k C.ds C.base m1' ms1') W1:=by
    refine ih T R1 W1 m1' ms1' (τ.grow W₁ W1) hlf (λ a b c => ?_) e3.rel e2.1 e2.2.1 ht1 hi1 (λ x hx => (hpn.at_ x.1 (List.mem_map_of_mem hx)).trans (hpin x hx)) hpn.no
    have hT:=hrun T
    cases ms with
    | nil =>
     cases hr1 : m.ret with
     | true => exact hs hr1 rfl
     | false =>
      simp only [stepS,hr1,Bool.false_eq_true,if_false] at hT
      exact runS_ret hT b hr1 (λ e => hend ⟨rfl,hr1,e⟩) c
    | cons c0 cs =>
     cases hr1 : m.ret with
     | true =>
      simp only [stepS,hr1,if_true] at hT
      obtain ⟨ops,i,r,k0,v,fn,hc,hf,hv,h1,h2⟩:=retS_inv (m1:=(nx T).1.1) (ms1:=(nx T).1.2) hT
      rw [h1] at c
      simp [Fm.fin] at c
     | false =>
      simp only [stepS,hr1,Bool.false_eq_true,if_false] at hT
      rcases runS_fn hT with ⟨e,_⟩ | e
      ·rw [a] at e; cases e
      ·rw [a] at e; cases e
   rcases stk_step (main:=C.main) (k:=k) (d:=C.ds) (base:=C.base) hs' hne' (MsR.wait hms) e1 with ⟨es,hst,hes⟩ | hcs
   ·have hsub : ∀ e ∈ es,EvOk R1 C.St e:=λ e he => by
     have:=hes e he
     rw [hev] at this
     exact e5 e (mem_seen this)
    exact .inl ⟨_,W1,_,hst,stk_status ..,hg,λ e he => evQ_of_evOk (hsub e he) ht1,goal⟩
   ·obtain ⟨ops,i,rest,k0,o,cs,sh,v,wm,Rx,c1,c2,c3,c4,c5,c6,c7,c8,c9,c10,c11,c12,c13⟩:=comm_rel F.toFit2 rfl hw₂ htp hm (hrun T) hcs
    subst c8
    obtain ⟨d1,d2⟩:=stk_comm (main:=C.main) (ms:=ms1') c1 c2 c3 c4 c5 v k C.ds C.base
    have htx : Terra (τ.grow W₁ W1) Rx C.St:=λ a b x => by
     rcases c11 a b x with y | ⟨y0,y1,y2⟩
     ·exact ⟨(ht a b y).1,λ z => .inl ((ht a b y).2 z)⟩
     ·refine ⟨λ z => ?_,λ _ => .inr ⟨y1,Nat.lt_of_lt_of_le y2 c12⟩⟩
      obtain ⟨⟨b',hb'⟩,_⟩:=hw₂.st a z
      have:=(hw₂.ltR a b' hb').1
      omega
    have hsub : ∀ e ∈ seen C.p m'.fn ((execOp m'.eval o).events C.p W₁ #[]),EvOk Rx C.St e:=λ e he => c9 e (mem_seen he)
    refine .inr ⟨cs,sh,v,wm,W1,_,d1,c6,λ c hc r hr => ?_,c12,hg,λ e he => evQ_of_evOk (hsub e he) htx,?_⟩
    ·obtain ⟨r0,h1,h2⟩:=c13 c hc r hr
     exact (htx r0 r h1).2 h2
    ·rw [d2,<- c7]
     exact goal
end
end Go.Mt
namespace Go.Mt
open Go.Conc Go.Tt
open Go.ConcR (KK wgBlock WgAt stA smA rd wr)
section
variable {L : Type} {C : Cx L} {l : L}
theorem fx_at (d : Dk) (fn : FuncId) (tmps : Array Value) (todo : List Item) : fx [] d ⟨fn,tmps,todo,false⟩ = (d.base fn).at ⟨tmps,d.ds⟩ todo:=by
 unfold fx; simp [Fm.fr,Dk.base,Frame.at]
theorem fx_ret (d : Dk) (fn : FuncId) (tmps : Array Value) (todo : List Item) : fx [] d ⟨fn,tmps,todo,true⟩ = { (d.base fn).at ⟨tmps,d.ds⟩ todo with mode:=.returning }:=by
 unfold fx; simp [Fm.fr,Dk.base,Frame.at]
theorem Terr.grow_id (τ : Terr) (w : World) : τ.grow w w = τ:=by
 obtain ⟨a,b,c⟩:=τ
 simp only [Terr.grow,Terr.mk.injEq,and_true]
 funext x
 exact propext ⟨λ h => h.elim id λ h => by omega,.inl⟩
theorem Gua.id (O : Nat -> Prop) (w : World) : Gua O w w:=⟨rfl,rfl,rfl,Nat.le_refl _,λ _ _ _ => rfl⟩
theorem Cx.Rel.suf {R : Pr} {w W W₁ : World} {τ : Terr} (hw : C.Rel R w W) (ht : Terra τ R C.St) (s : Suf C.ty C.Wg τ W W₁) : C.Rel R w W₁:=wrel_suf hw ht (λ a b x => (hw.lt a b (.inr x)).2) s
theorem beh_silent {main : Bool} {τ : Terr} {g g' : Goroutine} {W : World} {p : Program} {ty : TypeId} {Wg : Nat} {A : Proto L} {Fin : Goroutine -> World -> Prop} (hg : g.status = .running) (hg' : g'.status = .running) (hst : ∀ W₁,Suf ty Wg τ W W₁ -> stepG p main g W₁ = .go g' W₁ #[])
  (h : ∀ W₁,Suf ty Wg τ W W₁ -> BehE p ty Wg A Fin main (.usr l) 0 τ g' W₁) : BehE p ty Wg A Fin main (.usr l) 0 τ g W:=by
 refine BehE.own hg trivial λ W₁ s => ⟨g',W₁,#[],hst W₁ s,hg',Gua.id _ _,λ e he => by simp at he,?_⟩
 rw [Terr.grow_id]
 exact h W₁ s
theorem Cx.silent {τ : Terr} {g g' : Goroutine} {W : World} (hg : g.status = .running) (hg' : g'.status = .running) (hst : ∀ W₁,Suf C.ty C.Wg τ W W₁ -> stepG C.p C.main g W₁ = .go g' W₁ #[]) (h : ∀ W₁,Suf C.ty C.Wg τ W W₁ -> C.B l τ g' W₁) : C.B l τ g W:=by
 refine Cx.ownQ hg λ W₁ s => .inl ⟨g',W₁,#[],hst W₁ s,hg',Gua.id _ _,λ e he => by simp at he,?_⟩
 rw [Terr.grow_id]
 exact h W₁ s
theorem BO.silent (hI : IOk C) {fn : FuncId} {tmps : Array Value} {todo todo1 : List Item} {ret1 : Bool} {w : World} (hst : ∀ R tmps' W,ArR (SF C.fs) C.K R tmps tmps' -> stepG C.p C.main (G ((C.ds.base fn).at ⟨tmps',C.ds.ds⟩ todo) C.base) W = .go (G (fx [] C.ds ⟨fn,tmps',todo1,ret1⟩) C.base) W #[])
  (h : BO C l ⟨fn,tmps,todo1,ret1⟩ w) : BO C l ⟨fn,tmps,todo,false⟩ w:=by
 intro R W m' τ hw hm ht hi
 obtain ⟨fn',tmps',todo',ret'⟩:=m'
 obtain rfl:=hm.fn
 obtain rfl:=hm.todo
 obtain rfl:=hm.ret
 refine Cx.silent rfl rfl (λ W₁ s => by rw [fx_at]; exact hst R tmps' W₁ hm.tmps) λ W₁ s => ?_
 exact h R W₁ ⟨fn,tmps',todo1,ret1⟩ τ (hw.suf ht s) ⟨rfl,rfl,rfl,hm.tmps,hm.pins⟩ ht (hI.suf _ _ _ _ hi s)
section ctl
variable {fn : FuncId} {tmps : Array Value} {k : List Item} {w : World}
theorem BO.seq (hI : IOk C) {a b : Code} (h : BO C l ⟨fn,tmps,.code a :: .code b :: k,false⟩ w) : BO C l ⟨fn,tmps,.code (.seq a b) :: k,false⟩ w:=BO.silent hI (λ R t W _ => by rw [fx_at]; exact stepG_seq) h
theorem BO.skip (hI : IOk C) (h : BO C l ⟨fn,tmps,k,false⟩ w) : BO C l ⟨fn,tmps,.code .skip :: k,false⟩ w:=BO.silent hI (λ R t W _ => by rw [fx_at]; exact stepG_skip) h
theorem BO.block (hI : IOk C) {id : Nat} {c : Code} (h : BO C l ⟨fn,tmps,.code c :: .inBlock id :: k,false⟩ w) : BO C l ⟨fn,tmps,.code (.block id c) :: k,false⟩ w:=BO.silent hI (λ R t W _ => by rw [fx_at]; exact stepG_block) h
theorem BO.loop (hI : IOk C) {c : Code} (h : BO C l ⟨fn,tmps,.code c :: .inLoop c :: k,false⟩ w) : BO C l ⟨fn,tmps,.code (.loop c) :: k,false⟩ w:=BO.silent hI (λ R t W _ => by rw [fx_at]; exact stepG_loop) h
theorem BO.inLoop (hI : IOk C) {c : Code} (h : BO C l ⟨fn,tmps,.code c :: .inLoop c :: k,false⟩ w) : BO C l ⟨fn,tmps,.inLoop c :: k,false⟩ w:=BO.silent hI (λ R t W _ => by rw [fx_at]; exact stepG_inLoop) h
theorem BO.inBlock (hI : IOk C) {id : Nat} (h : BO C l ⟨fn,tmps,k,false⟩ w) : BO C l ⟨fn,tmps,.inBlock id :: k,false⟩ w:=BO.silent hI (λ R t W _ => by rw [fx_at]; exact stepG_inBlock) h
theorem BO.exit (hI : IOk C) {id : Nat} {k' : List Item} (he : exitTo id k = some k') (h : BO C l ⟨fn,tmps,k',false⟩ w) : BO C l ⟨fn,tmps,.code (.exit id) :: k,false⟩ w:=BO.silent hI (λ R t W _ => by rw [fx_at]; exact stepG_exit he) h
theorem BO.reg (hI : IOk C) {id : Nat} {ops : Array Oper} (h : BO C l ⟨fn,tmps,.inRegion ops (List.range ops.size) :: k,false⟩ w) : BO C l ⟨fn,tmps,.code (.region id ops false) :: k,false⟩ w:=BO.silent hI (λ R t W _ => by rw [fx_at]; exact stepG_region) h
theorem BO.regEnd (hI : IOk C) {ops : Array Oper} (h : BO C l ⟨fn,tmps,k,false⟩ w) : BO C l ⟨fn,tmps,.inRegion ops [] :: k,false⟩ w:=BO.silent hI (λ R t W _ => by rw [fx_at]; exact stepG_region_end) h
theorem BO.fall (hI : IOk C) (h : BO C l ⟨fn,tmps,[],true⟩ w) : BO C l ⟨fn,tmps,[],false⟩ w:=BO.silent hI (λ R t W _ => by rw [fx_ret]; exact stepG_end) h
theorem BO.ret (hI : IOk C) (h : BO C l ⟨fn,tmps,.code .ret :: k,true⟩ w) : BO C l ⟨fn,tmps,.code .ret :: k,false⟩ w:=BO.silent hI (λ R t W _ => by rw [fx_ret]; exact stepG_ret') h
theorem eval_rel {R : Pr} {t t' : Array Value} {d : List Deferred} (h : ArR (SF C.fs) C.K R t t') {x : Operand} (hx : okX C.fs x = true) : VR (SF C.fs) C.K R ((Go.Act.mk t []).eval x) ((Go.Act.mk t' d).eval x):=by
 cases x with
 | tmp t => exact h.getD t vr_undef
 | const v => exact okConst_ok hx
 | global g => cases hx
 | func f => exact .func hx rfl (λ i v v' h => by simp at h) rfl (λ i v v' h => by simp at h)
theorem BO.cond (hI : IOk C) {c : Operand} {a b : Code} {t : Bool} (hx : okX C.fs c = true) (hc : (Go.Act.mk tmps []).eval c = .bool t) (h : BO C l ⟨fn,tmps,.code (if t then a else b) :: k,false⟩ w) : BO C l ⟨fn,tmps,.code (.cond c a b) :: k,false⟩ w:=
 BO.silent hI (λ R t' W ha => by
  rw [fx_at]
  have h1:=eval_rel (C:=C) (d:=C.ds.ds) ha hx
  rw [hc] at h1
  have h2 : (Go.Act.mk t' C.ds.ds).eval c = .bool t:=by
   generalize (Go.Act.mk t' C.ds.ds).eval c = v' at h1
   cases h1; rfl
  exact stepG_cond h2) h
end ctl
structure FnOk (p : Program) (fn : FuncId) : Prop where
 res : ∃ f,p.funcs[fn]? = some f /\ plainRes f.results.toList
theorem fmr_piece {R : Pr} {fn : FuncId} {tmps tmps' : Array Value} {c : Code} (hc : fitCode C.p ⟨C.fs,C.gs,false⟩ c = true) (hf : FnOk C.p fn) (ha : ArR (SF C.fs) C.K R tmps tmps') : FmR C.P C.fs C.K R ⟨fn,tmps,[.code c],false⟩ ⟨fn,tmps',[.code c],false⟩:=by
 obtain ⟨f,h1,h2⟩:=hf.res
 refine ⟨rfl,rfl,rfl,ha,λ i hi => ?_,⟨f,f,h1,h1,rfl,h2⟩⟩
 simp only [List.mem_cons,List.not_mem_nil,or_false] at hi
 subst hi
 exact hc
theorem BO.piece (F : Fit3 C.P C.fs) (hI : IOk C) {fn : FuncId} {tmps : Array Value} {c : Code} {k : List Item} {w : World} (hc : fitCode C.p ⟨C.fs,C.gs,false⟩ c = true) (hf : FnOk C.p fn) (hno : codeNo C.S c = true)
  (hwp : ∀ T,Code.wp C.p c (λ e a' w' => e = .normal /\ BO C l ⟨fn,a'.tmps,k,false⟩ w') ⟨tmps,[]⟩ (Tt.tp w T 0)) : BO C l ⟨fn,tmps,.code c :: k,false⟩ w:=by
 intro R W m' τ hw hm ht hi
 obtain ⟨fn',tmps',todo',ret'⟩:=m'
 obtain rfl:=hm.fn
 obtain rfl:=hm.todo
 obtain rfl:=hm.ret
 have hfm:=fmr_piece (R:=R) hc hf hm.tmps
 have hrel : RelS C.P C.fs C.K (prGp C.p) C.St ⟨fn,tmps,[.code c],false⟩ [] w:=⟨R,W,_,[],hw,hfm,.nil⟩
 have tree:=piece_tree F rfl hrel hwp (λ e a w h => .inl h.1) (λ e a w T k h => ⟨h.1,h.2.tape T k⟩)
 have:=tree_beh (l:=l) F hI (k:=k) (fn0:=fn) tree (λ x wT e1 e2 e3 hq => by
   rcases (hq wT.tape).2 with h | h
   ·exact BO.untape h.2.2
   ·cases h.1)
  (λ x wT e1 e2 e3 hq => by
   rcases hq.2 with h | h
   ·exact absurd h.1 e3
   ·cases h.1) R W ⟨fn,tmps',[.code c],false⟩ [] τ rfl (λ _ e => by cases e) hw hfm .nil ht hi hm.pins (λ i hi => by
   simp only [lastOf,List.mem_cons,List.not_mem_nil,or_false] at hi
   subst hi; exact hno)
 have e : fx k C.ds ⟨fn,tmps',[.code c],false⟩ = fx [] C.ds ⟨fn,tmps',.code c :: k,false⟩:=by unfold fx; simp [Fm.fr]
 unfold stk at this
 rw [e] at this
 exact this
theorem put_pins {tmps' : Array Value} {dst : Option Nat} {v : Value} {d : List Deferred} (hp : ∀ x ∈ C.pin,tmps'.getD x.1 undef = x.2) (hn : ∀ s,dst = some s -> s ∉ C.S) : ∀ x ∈ C.pin,(Go.Act.put ⟨tmps',d⟩ dst v).tmps.getD x.1 undef = x.2:=by
 intro x hx
 cases dst with
 | none => exact hp x hx
 | some s =>
  have hne : s ≠ x.1:=λ e => hn s rfl (e ▸ List.mem_map_of_mem hx)
  rw [<- hp x hx]
  simp only [Go.Act.put,Array.getD_eq_getD_getElem?,Array.getElem?_setIfInBounds_ne hne]
theorem put_rel {R : Pr} {t t' : Array Value} {d d' : List Deferred} (h : ArR (SF C.fs) C.K R t t') {dst : Option Nat} {v v' : Value} (hv : VR (SF C.fs) C.K R v v') : ArR (SF C.fs) C.K R (Go.Act.put ⟨t,d⟩ dst v).tmps (Go.Act.put ⟨t',d'⟩ dst v').tmps:=by
 cases dst with
 | none => exact h
 | some s => exact h.set s hv
theorem wanted_rel {R : Pr} {t t' : Array Value} {o : Oper} {ops : Array Oper} (h : ArR (SF C.fs) C.K R t t') (hw : Region.wanted o (yielded ops t) = true) : Region.wanted o (yielded ops t') = true:=by
 rw [<- yielded_rel ops h]; exact hw
theorem BO.op (F : Fit3 C.P C.fs) (hI : IOk C) {fn : FuncId} {tmps : Array Value} {ops : Array Oper} {i : Nat} {rest : List Nat} {k : List Item} {w : World} {o : Oper} (ho : ops[i]? = some o) (hwt : Region.wanted o (yielded ops tmps) = true)
  (hok : okOp C.p ⟨C.fs,C.gs,false⟩ o.op = true) (hnd : ∀ s,o.dst = some s -> s ∉ C.S)
  (hx : ∀ T,∃ v w',((execOp (Go.Act.mk tmps []).eval o).run C.p (Tt.tp w T 0) = .ok (.value v) w' \/ ((execOp (Go.Act.mk tmps []).eval o).run C.p (Tt.tp w T 0) = .ok .skip w' /\ v = undef)) /\ BO C l ⟨fn,(Go.Act.put ⟨tmps,[]⟩ o.dst v).tmps,.inRegion ops rest :: k,false⟩ w') :
  BO C l ⟨fn,tmps,.inRegion ops (i :: rest) :: k,false⟩ w:=by
 intro R W m' τ hw hm ht hi
 obtain ⟨fn',tmps',todo',ret'⟩:=m'
 obtain rfl:=hm.fn
 obtain rfl:=hm.todo
 obtain rfl:=hm.ret
 rw [fx_at]
 refine Cx.ownQ rfl λ W₁ s => ?_
 have hw₁:=hw.suf ht s
 have hi₁:=hI.suf _ _ _ _ hi s
 let T : Tape:=λ n q => W₁.tape (W₁.drawn + n) q
 have hw₂ : C.Rel R (Tt.tp w T 0) W₁:=⟨hw₁.inj,hw₁.inj',hw₁.lt,hw₁.low,hw₁.gle,hw₁.cont,hw₁.rest,hw₁.st,hw₁.np,hw₁.tb⟩
 have htp : Tp (Tt.tp w T 0) W₁:=λ n q => by show W₁.tape (W₁.drawn + (0 + n)) q = _; rw [Nat.zero_add]
 obtain ⟨v,w',hrun,hB⟩:=hx T
 have hsim:=sim_execOp (P:=C.P) (q:=⟨C.fs,C.gs,false⟩) (o:=o) (ρ:=(Go.Act.mk tmps []).eval) (ρ':=(Go.Act.mk tmps' C.ds.ds).eval) F.toFit2.toFit (hw₂.relOk rfl) (λ x hx => eval_rel hm.tmps hx) (λ g => rfl) (λ g => rfl) (λ g => rfl) (λ g => rfl) rfl (λ f h => h) (λ e => by cases e) hok
 have key : ∃ R1 v' W1 ev,((execOp (Go.Act.mk tmps' C.ds.ds).eval o).run C.p W₁ = .ok (.value v') W1 \/ ((execOp (Go.Act.mk tmps' C.ds.ds).eval o).run C.p W₁ = .ok .skip W1 /\ v' = undef)) /\ VR (SF C.fs) C.K R1 v v' /\ WStep (SF C.fs) C.K R (prGp C.p) C.St (Tt.tp w T 0) W₁ R1 w' W1 /\
   (∀ es,(execOp (Go.Act.mk tmps' C.ds.ds).eval o).events C.p W₁ es = es ++ ev) /\ ∀ e ∈ ev,EvOk R1 C.St e:=by
  rcases hrun with hrun | ⟨hrun,rfl⟩
  ·obtain ⟨R1,x',W1,ev,e1,e2,e3,e4,e5⟩:=Sim.run rfl _ hsim hw₂ htp hrun
   cases e2 with
   | value hv => exact ⟨R1,_,W1,ev,.inl e1,hv,e3,e4,e5⟩
  ·obtain ⟨R1,x',W1,ev,e1,e2,e3,e4,e5⟩:=Sim.run rfl _ hsim hw₂ htp hrun
   cases e2 with
   | skip => exact ⟨R1,undef,W1,ev,.inr ⟨e1,rfl⟩,vr_undef,e3,e4,e5⟩
 obtain ⟨R1,v',W1,ev,e1,hv,e3,e4,e5⟩:=key
 have hb : (C.ds.base fn).kind ≠ .early:=C.ds.ok
 have hwt':=wanted_rel (C:=C) hm.tmps hwt
 have hst : stepG C.p C.main (G ((C.ds.base fn).at ⟨tmps',C.ds.ds⟩ (.inRegion ops (i :: rest) :: k)) C.base) W₁ = .go (G ((C.ds.base fn).at (Go.Act.put ⟨tmps',C.ds.ds⟩ o.dst v') (.inRegion ops rest :: k)) C.base) W1 (listed C.p (C.ds.base fn).fn ⟨tmps',C.ds.ds⟩ o W₁):=by
  rcases e1 with e1 | ⟨e1,rfl⟩
  ·exact stepG_value ho hwt' hb e1
  ·exact stepG_none ho hwt' hb e1
 have hput : Go.Act.put ⟨tmps',C.ds.ds⟩ o.dst v' = ⟨(Go.Act.put ⟨tmps',C.ds.ds⟩ o.dst v').tmps,C.ds.ds⟩:=by cases o.dst <;> rfl
 have hsub : ∀ e ∈ listed C.p (C.ds.base fn).fn ⟨tmps',C.ds.ds⟩ o W₁,EvOk R1 C.St e:=λ e he => by
  unfold listed at he
  rw [e4] at he
  exact e5 e (by simpa using mem_seen he)
 have hsz : W₁.heap.size <= W1.heap.size:=e3.size.2
 have hnew : ∀ a b,R1 a b -> R a b \/ (W₁.heap.size <= b /\ b < W1.heap.size):=λ a b x => by
  rcases e3.new a b x with y | ⟨_,y⟩
  ·exact .inl y
  ·exact .inr ⟨y,(e3.rel.ltR a b x).2⟩
 have ht1 : Terra (τ.grow W₁ W1) R1 C.St:=λ a b x => by
  rcases e3.new a b x with y | ⟨y1,y2⟩
  ·exact ⟨(ht a b y).1,λ z => .inl ((ht a b y).2 z)⟩
  ·refine ⟨λ z => ?_,λ _ => .inr ⟨y2,(e3.rel.ltR a b x).2⟩⟩
   obtain ⟨⟨b',hb'⟩,_⟩:=hw₂.st a z
   have:=(hw₂.ltR a b' hb').1
   omega
 have hg : Gua τ.own W₁ W1:=⟨e3.tape.2,e3.os.2,e3.out.2,hsz,λ b hb hno => e3.keep b hb λ a x => Classical.byContradiction λ z => hno ((ht a b x).2 z)⟩
 have hi1:=hI.step R τ W₁ R1 W1 hi₁ ht ⟨e3.le,e3.tape.2,e3.os.2,e3.out.2,hsz,hnew,e3.keep⟩
 refine .inl ⟨_,W1,_,hst,rfl,hg,λ e he => evQ_of_evOk (hsub e he) ht1,?_⟩
 rw [hput,<- fx_at]
 exact hB R1 W1 ⟨fn,_,_,false⟩ _ e3.rel ⟨rfl,rfl,rfl,put_rel (C:=C) (hm.tmps.mono e3.le) hv,put_pins (C:=C) hm.pins hnd⟩ ht1 hi1
end
end Go.Mt
namespace Go.Mt
open Go.Conc Go.Tt
open Go.ConcR (KK wgBlock WgAt stA smA rd wr)
section
variable {L : Type} {C : Cx L} {l : L}
structure Callee (C : Cx L) (tmps : Array Value) (x : Operand) (f : FuncId) (first cap : Array Value) : Prop where
 here : (Go.Act.mk tmps []).eval x = .func (.func f) first cap
 there : ∀ R tmps' d,ArR (SF C.fs) C.K R tmps tmps' -> ∃ first' cap',(Go.Act.mk tmps' d).eval x = .func (.func f) first' cap' /\ ArR (SF C.fs) C.K R first first' /\ ArR (SF C.fs) C.K R cap cap'
theorem exec_recv {p : Program} {o : Oper} {ct : TypeId} {x : Operand} {ok : Bool} {ρ : Operand -> Value} {c : Nat} {z : Value} {dir : ChanDir} {e : TypeId} {ie : TypeInfo} (hop : o.op = .recv ct x ok) (hct : p.underlying ct = some (.chan dir e)) (hie : p.info? e = some ie) (hz : ie.zero = some z) (hx : ρ x = .chan (some c)) (w : World) :
  (execOp ρ o).run p w = .ok (.comm #[rcase c z] true (.recv ok)) w /\ (execOp ρ o).events p w #[] = #[]:=by
 obtain ⟨dst,op',type,pos,after,guard⟩:=o
 simp only at hop
 subst hop
 have hu : ∀ w,(underlying ct).run p w = .ok (.chan dir e) w:=λ w => by simp [underlying,program,bind,Sem.bind,Sem.run,hct,pure]
 have hzz : ∀ w,(zeroValue e).run p w = .ok z w:=λ w => by simp [zeroValue,typeInfo,program,bind,Sem.bind,Sem.run,hie,hz,pure]
 have he : execOp ρ ⟨dst,.recv ct x ok,type,pos,after,guard⟩ = (underlying ct).bind (λ d => match d with | .chan _ elem => (zeroValue elem).bind (λ z => .pure (.comm #[{ chan:=ρ x,send:=none,zero:=z }] true (.recv ok))) | _ => stuck "receive: channel type expected"):=by
  simp only [execOp]
  show Sem.bind _ _ = Sem.bind _ _
  congr 1
 rw [he]
 constructor
 ·rw [Sem.run_bind',hu]
  simp only [Result.andThen]
  rw [Sem.run_bind',hzz]
  simp only [Result.andThen,hx]
  rfl
 ·rw [Sem.events_bind',hu,Result.evThen_ok,events_underlying]
  simp only
  rw [Sem.events_bind',hzz,Result.evThen_ok,events_zeroValue]
  rfl
theorem exec_send {p : Program} {o : Oper} {x y : Operand} {ρ : Operand -> Value} {c : Nat} {v : Value} (hop : o.op = .send x y) (hx : ρ x = .chan (some c)) (hy : ρ y = v) (w : World) :
  (execOp ρ o).run p w = .ok (.comm #[scase c v (.tuple #[])] true .send) w /\ (execOp ρ o).events p w #[] = #[]:=by
 obtain ⟨dst,op',type,pos,after,guard⟩:=o
 simp only at hop
 subst hop
 constructor
 ·simp [execOp,hx,hy,scase,pure,Sem.run]
 ·simp [execOp,hx,hy,scase,pure,Sem.run,Sem.events,Sem.runT]
theorem chan_rel {R : Pr} {w W : World} (hw : C.Rel R w W) {g c : Nat} {v' : Value} (hK : C.K g c) (h : VR (SF C.fs) C.K R (.chan (some g)) v') : v' = .chan (some c):=by
 cases h with
 | chan h =>
  cases h with
  | some h => rw [hw.inj g _ c h (.inr hK)]
theorem served_fx {fn : FuncId} {tmps : Array Value} {ops : Array Oper} {i : Nat} {rest : List Nat} {k : List Item} {o : Oper} (ho : ops[i]? = some o) (v : Value) : Conc.served (G ((C.ds.base fn).at ⟨tmps,C.ds.ds⟩ (.inRegion ops (i :: rest) :: k)) C.base) v = G (fx [] C.ds ⟨fn,(Go.Act.put ⟨tmps,[]⟩ o.dst v).tmps,.inRegion ops rest :: k,false⟩) C.base:=by
 rw [fx_at]
 have hput : Go.Act.put ⟨tmps,C.ds.ds⟩ o.dst v = ⟨(Go.Act.put ⟨tmps,[]⟩ o.dst v).tmps,C.ds.ds⟩:=by cases o.dst <;> rfl
 have hfin : ((C.ds.base fn).at ⟨tmps,C.ds.ds⟩ (.inRegion ops (i :: rest) :: k)).finish v = (C.ds.base fn).at (Go.Act.put ⟨tmps,C.ds.ds⟩ o.dst v) (.inRegion ops rest :: k):=by rw [Frame.finish_at,ho]; rfl
 rw [<- hput,<- hfin]; rfl
theorem BO.recv (ha : C.alone = none) (hI : IOk C) {fn : FuncId} {tmps : Array Value} {ops : Array Oper} {i : Nat} {rest : List Nat} {k : List Item} {w : World} {o : Oper} {ct : TypeId} {x : Operand} {ok : Bool} {c g : Nat} {z : Value} {dir : ChanDir} {e : TypeId} {ie : TypeInfo} {okv : Value -> Prop} {nx : Value -> L} {sh : L}
  (ho : ops[i]? = some o) (hwt : Region.wanted o (yielded ops tmps) = true) (hop : o.op = .recv ct x ok) (hct : C.p.underlying ct = some (.chan dir e)) (hie : C.p.info? e = some ie) (hz : ie.zero = some z) (hzr : ∀ R,VR (SF C.fs) C.K R z z)
  (hxo : okX C.fs x = true) (hx : (Go.Act.mk tmps []).eval x = .chan (some g)) (hK : C.K g c) (hnd : ∀ s,o.dst = some s -> s ∉ C.S) (hact : C.A.act l = .recv c okv nx sh)
  (h1 : ∀ v,okv v -> ∃ vg,(∀ R,VR (SF C.fs) C.K R vg v) /\ BO C (nx v) ⟨fn,(Go.Act.put ⟨tmps,[]⟩ o.dst (recvd ok vg true)).tmps,.inRegion ops rest :: k,false⟩ w)
  (h2 : C.A.cl l -> BO C sh ⟨fn,(Go.Act.put ⟨tmps,[]⟩ o.dst (recvd ok z false)).tmps,.inRegion ops rest :: k,false⟩ w) : BO C l ⟨fn,tmps,.inRegion ops (i :: rest) :: k,false⟩ w:=by
 intro R W m' τ hw hm ht hi
 obtain ⟨fn',tmps',todo',ret'⟩:=m'
 obtain rfl:=hm.fn
 obtain rfl:=hm.todo
 obtain rfl:=hm.ret
 have hx' : (Go.Act.mk tmps' C.ds.ds).eval x = .chan (some c):=chan_rel hw hK (hx ▸ eval_rel (C:=C) hm.tmps hxo)
 have hwt':=wanted_rel (C:=C) hm.tmps hwt
 have hb : (C.ds.base fn).kind ≠ .early:=C.ds.ok
 have rec' : ∀ vg v' b,VR (SF C.fs) C.K R vg v' -> VR (SF C.fs) C.K R (recvd ok vg b) (recvd ok v' b):=λ vg v' b h => by
  unfold recvd
  cases ok with
  | false => exact h
  | true =>
   simp only [if_true]
   exact VR.tuple' (by
    have:=ArR.empty (S:=SF C.fs) (K:=C.K) (R:=R)
    exact (this.push h).push (.bool b))
 have goon : ∀ {l' : L} {vg v' : Value},VR (SF C.fs) C.K R vg v' -> BO C l' ⟨fn,(Go.Act.put ⟨tmps,[]⟩ o.dst vg).tmps,.inRegion ops rest :: k,false⟩ w ->
   C.B l' τ (Conc.served (G ((C.ds.base fn).at ⟨tmps',C.ds.ds⟩ (.inRegion ops (i :: rest) :: k)) C.base) v') W:=λ {l' vg v'} hv hB => by
  rw [served_fx ho]
  exact hB R W _ τ hw ⟨rfl,rfl,rfl,put_rel (C:=C) hm.tmps hv,put_pins (C:=C) hm.pins hnd⟩ ht hi
 rw [fx_at,Cx.B_none ha]
 refine BehE.usr rfl ?_
 unfold AtUsr
 rw [hact]
 refine ⟨rfl,z,ok,λ w₁ s => ?_,λ v hv => ?_,λ hcl => ?_⟩
 ·obtain ⟨e1,e2⟩:=exec_recv (p:=C.p) (ρ:=(Go.Act.mk tmps' C.ds.ds).eval) hop hct hie hz hx' w₁
  rw [stepG_comm ho hwt' hb e1]
  unfold listed
  rw [e2,Conc.seen_none]
 ·obtain ⟨vg,hvg,hB⟩:=h1 v hv
  have:=goon (rec' _ _ _ (hvg R)) hB
  rw [Cx.B_none ha] at this
  exact this
 ·have:=goon (rec' _ _ _ (hzr R)) (h2 hcl)
  rw [Cx.B_none ha] at this
  exact this
theorem BO.send (ha : C.alone = none) (hI : IOk C) {fn : FuncId} {tmps : Array Value} {ops : Array Oper} {i : Nat} {rest : List Nat} {k : List Item} {w : World} {o : Oper} {x y : Operand} {c g : Nat} {okv : Value -> Prop} {pub : Value -> List Nat} {nx : Value -> L} {l' : L}
  (ho : ops[i]? = some o) (hwt : Region.wanted o (yielded ops tmps) = true) (hop : o.op = .send x y)
  (hxo : okX C.fs x = true) (hx : (Go.Act.mk tmps []).eval x = .chan (some g)) (hK : C.K g c) (hyo : okX C.fs y = true) (hnd : ∀ s,o.dst = some s -> s ∉ C.S) (hact : C.A.act l = .send c okv pub nx)
  (hv : ∀ R v',VR (SF C.fs) C.K R ((Go.Act.mk tmps []).eval y) v' -> okv v' /\ pub v' = [] /\ nx v' = l')
  (h1 : BO C l' ⟨fn,(Go.Act.put ⟨tmps,[]⟩ o.dst undef).tmps,.inRegion ops rest :: k,false⟩ w) : BO C l ⟨fn,tmps,.inRegion ops (i :: rest) :: k,false⟩ w:=by
 intro R W m' τ hw hm ht hi
 obtain ⟨fn',tmps',todo',ret'⟩:=m'
 obtain rfl:=hm.fn
 obtain rfl:=hm.todo
 obtain rfl:=hm.ret
 have hx' : (Go.Act.mk tmps' C.ds.ds).eval x = .chan (some c):=chan_rel hw hK (hx ▸ eval_rel (C:=C) hm.tmps hxo)
 have hwt':=wanted_rel (C:=C) hm.tmps hwt
 have hb : (C.ds.base fn).kind ≠ .early:=C.ds.ok
 obtain ⟨k1,k2,k3⟩:=hv R _ (eval_rel (C:=C) (d:=C.ds.ds) hm.tmps hyo)
 rw [fx_at,Cx.B_none ha]
 refine BehE.usr rfl ?_
 unfold AtUsr
 rw [hact]
 refine ⟨rfl,_,.tuple #[],τ,λ w₁ s => ?_,k1,λ b h => h,rfl,λ b h => .inl h,(λ a ha => by rw [k2] at ha; cases ha),?_⟩
 ·obtain ⟨e1,e2⟩:=exec_send (p:=C.p) (ρ:=(Go.Act.mk tmps' C.ds.ds).eval) hop hx' rfl w₁
  rw [stepG_comm ho hwt' hb e1]
  unfold listed
  rw [e2,Conc.seen_none]
 ·rw [k3,served_fx ho]
  rw [<- Cx.B_none ha]
  exact h1 R W _ τ hw ⟨rfl,rfl,rfl,put_rel (C:=C) hm.tmps vr_undef,put_pins (C:=C) hm.pins hnd⟩ ht hi
end
end Go.Mt
namespace Go.Mt
open Go.Conc
inductive PpL where
 | m0 | m1 | rv (k : Nat) | wt | sd (k : Nat) | dn
def pipeAct (c n : Nat) (val : Nat -> Value) : PpL -> Act PpL
 | .m0 => .add .m1
 | .m1 => .spawn [c] (.sd 0) (.rv 0)
 | .rv k => .recv c (λ v => k < n /\ v = val k) (λ _ => .rv (k + 1)) .wt
 | .wt => .wait
 | .sd k => if k < n then .send c (λ v => v = val k) (λ _ => []) (λ _ => .sd (k + 1)) else .close c .dn
 | .dn => .done
def PpL.pend : PpL -> Bool | .m1 => true | _ => false
inductive PipeInv (c n : Nat) (q : Nat -> Pj PpL) (ch : Chs) : Prop
 | a (l : PpL) : (l = .m0 \/ l = .m1) -> q 0 = .run l -> (∀ i,i ≠ 0 -> q i = .gone) -> PipeInv c n q ch
 | b (j k : Nat) : j ≠ 0 -> (∀ i,i ≠ 0 -> i ≠ j -> q i = .gone) -> k <= n -> q 0 = .run (.rv k) -> q j = .run (.sd k) -> ch c = some false -> PipeInv c n q ch
 | d (j : Nat) : j ≠ 0 -> (∀ i,i ≠ 0 -> i ≠ j -> q i = .gone) -> ch c = some true -> (q 0 = .run (.rv n) \/ q 0 = .run .wt \/ q 0 = .waits) -> (q j = .run .dn \/ q j = .over .dn) -> PipeInv c n q ch
def pipe (c n : Nat) (val : Nat -> Value) : Proto PpL where
 act:=pipeAct c n val
 dep:=λ _ _ => True
 pend:=PpL.pend
 cl:=λ l => l = .rv n
 Inv:=PipeInv c n
theorem num_two {L : Type} {q : Nat -> Pj L} {j : Nat} (h : ∀ i,i ≠ 0 -> i ≠ j -> q i = .gone) : ∀ n,num q n <= (if 0 < n then 1 else 0) + (if j < n then 1 else 0):=by
 intro n
 induction n with
 | zero => simp [num]
 | succ n ih =>
  simp only [num]
  have hc : (q n).c <= 1:=by cases q n <;> simp [Pj.c]
  by_cases h0 : n = 0
  ·subst h0; simp [num] at ih ⊢; omega
  ·by_cases hj : n = j
   ·subst hj
    have : 0 < n:=by omega
    simp [this] at ih ⊢; omega
   ·rw [h n h0 hj]
    have : (0 < n) ↔ (0 < n + 1):=by omega
    simp only [Pj.c]
    split at ih <;> split at ih <;> split <;> split <;> omega
section
variable {c n : Nat} {val : Nat -> Value} {q : Nat -> Pj PpL} {ch : Chs}
theorem PipeInv.who (h : PipeInv c n q ch) {i : Nat} {l : PpL} (hi : q i = .run l) :
  (i = 0 /\ (l = .m0 \/ l = .m1)) \/ (∃ k,k <= n /\ ch c = some false /\ ((i = 0 /\ l = .rv k) \/ (i ≠ 0 /\ l = .sd k)) /\ ∃ j,j ≠ 0 /\ q 0 = .run (.rv k) /\ q j = .run (.sd k)) \/ (ch c = some true /\ ((i = 0 /\ (l = .rv n \/ l = .wt)) \/ (i ≠ 0 /\ l = .dn))):=by
 cases h with
 | a l' hl h0 hg =>
  by_cases e : i = 0
  ·subst e; rw [h0] at hi; cases hi; exact .inl ⟨rfl,hl⟩
  ·rw [hg i e] at hi; cases hi
 | b j k hj hg hk h0 hjr hc =>
  by_cases e : i = 0
  ·subst e; rw [h0] at hi; cases hi; exact .inr (.inl ⟨k,hk,hc,.inl ⟨rfl,rfl⟩,j,hj,h0,hjr⟩)
  ·by_cases e2 : i = j
   ·subst e2; rw [hjr] at hi; cases hi; exact .inr (.inl ⟨k,hk,hc,.inr ⟨e,rfl⟩,i,hj,h0,hjr⟩)
   ·rw [hg i e e2] at hi; cases hi
 | d j hj hg hc h0 hjr =>
  by_cases e : i = 0
  ·subst e
   rcases h0 with h0 | h0 | h0 <;> rw [h0] at hi <;> cases hi
   ·exact .inr (.inr ⟨hc,.inl ⟨rfl,.inl rfl⟩⟩)
   ·exact .inr (.inr ⟨hc,.inl ⟨rfl,.inr rfl⟩⟩)
  ·by_cases e2 : i = j
   ·subst e2
    rcases hjr with hjr | hjr <;> rw [hjr] at hi <;> cases hi
    exact .inr (.inr ⟨hc,.inr ⟨e,rfl⟩⟩)
   ·rw [hg i e e2] at hi; cases hi
theorem pipeAct_send {l : PpL} {c' : Nat} {ok : Value -> Prop} {pub : Value -> List Nat} {nx : Value -> PpL} (h : pipeAct c n val l = .send c' ok pub nx) : ∃ k,l = .sd k /\ k < n /\ c' = c /\ ok = (λ v => v = val k) /\ pub = (λ _ => []) /\ nx = λ _ => .sd (k + 1):=by
 cases l with
 | sd k =>
  simp only [pipeAct] at h
  split at h
  ·next hk => cases h; exact ⟨k,rfl,hk,rfl,rfl,rfl,rfl⟩
  ·cases h
 | _ => simp [pipeAct] at h
theorem pipeAct_recv {l : PpL} {c' : Nat} {ok : Value -> Prop} {nx : Value -> PpL} {sh : PpL} (h : pipeAct c n val l = .recv c' ok nx sh) : ∃ k,l = .rv k /\ c' = c /\ ok = (λ v => k < n /\ v = val k) /\ nx = (λ _ => .rv (k + 1)) /\ sh = .wt:=by
 cases l with
 | rv k => simp only [pipeAct] at h; cases h; exact ⟨k,rfl,rfl,rfl,rfl,rfl⟩
 | sd k => simp only [pipeAct] at h; split at h <;> cases h
 | _ => simp [pipeAct] at h
theorem pipeAct_close {l : PpL} {c' : Nat} {nx : PpL} (h : pipeAct c n val l = .close c' nx) : ∃ k,l = .sd k /\ ¬ k < n /\ c' = c /\ nx = .dn:=by
 cases l with
 | sd k =>
  simp only [pipeAct] at h
  split at h
  ·cases h
  ·next hk => cases h; exact ⟨k,rfl,hk,rfl,rfl⟩
 | _ => simp [pipeAct] at h
theorem pipeAct_add {l nx : PpL} (h : pipeAct c n val l = .add nx) : l = .m0 /\ nx = .m1:=by
 cases l with
 | m0 => simp only [pipeAct] at h; cases h; exact ⟨rfl,rfl⟩
 | sd k => simp only [pipeAct] at h; split at h <;> cases h
 | _ => simp [pipeAct] at h
theorem pipeAct_spawn {l lc nx : PpL} {pub : List Nat} (h : pipeAct c n val l = .spawn pub lc nx) : l = .m1 /\ pub = [c] /\ lc = .sd 0 /\ nx = .rv 0:=by
 cases l with
 | m1 => simp only [pipeAct] at h; cases h; exact ⟨rfl,rfl,rfl,rfl⟩
 | sd k => simp only [pipeAct] at h; split at h <;> cases h
 | _ => simp [pipeAct] at h
theorem pipeAct_done {l : PpL} (h : pipeAct c n val l = .done) : l = .dn:=by
 cases l with
 | dn => rfl
 | sd k => simp only [pipeAct] at h; split at h <;> cases h
 | _ => simp [pipeAct] at h
theorem pipeAct_wait {l : PpL} (h : pipeAct c n val l = .wait) : l = .wt:=by
 cases l with
 | wt => rfl
 | sd k => simp only [pipeAct] at h; split at h <;> cases h
 | _ => simp [pipeAct] at h
theorem pipe_ok (c n : Nat) (val : Nat -> Value) : (pipe c n val).Ok where
 send1:=by
  intro q ch i j li lj c' ok pub nx ok' pub' nx' hI hi hj ha hb
  obtain ⟨k,rfl,_⟩:=pipeAct_send (c:=c) (n:=n) (val:=val) ha
  obtain ⟨k',rfl,_⟩:=pipeAct_send (c:=c) (n:=n) (val:=val) hb
  cases hI with
  | a l' hl h0 hg =>
   have : i = 0:=Classical.byContradiction λ e => by rw [hg i e] at hi; cases hi
   subst this; rw [h0] at hi; cases hi; rcases hl with h | h <;> cases h
  | b j' k2 hj' hg hk h0 hjr hc =>
   have e1 : i = j':=Classical.byContradiction λ e => by
    by_cases e0 : i = 0
    ·subst e0; rw [h0] at hi; cases hi
    ·rw [hg i e0 e] at hi; cases hi
   have e2 : j = j':=Classical.byContradiction λ e => by
    by_cases e0 : j = 0
    ·subst e0; rw [h0] at hj; cases hj
    ·rw [hg j e0 e] at hj; cases hj
   rw [e1,e2]
  | d j' hj' hg hc h0 hjr =>
   exfalso
   rcases PipeInv.who (.d j' hj' hg hc h0 hjr) hi with ⟨_,h | h⟩ | ⟨_,_,h,_⟩ | ⟨_,⟨_,h | h⟩ | ⟨_,h⟩⟩
   ·cases h
   ·cases h
   ·rw [hc] at h; cases h
   ·cases h
   ·cases h
   ·cases h
 recv1:=by
  intro q ch i j li lj c' ok nx sh ok' nx' sh' hI hi hj ha hb
  obtain ⟨k,rfl,_⟩:=pipeAct_recv (c:=c) (n:=n) (val:=val) ha
  obtain ⟨k',rfl,_⟩:=pipeAct_recv (c:=c) (n:=n) (val:=val) hb
  have key : ∀ {i k},q i = .run (.rv k) -> i = 0:=λ {i k} h => by
   rcases hI.who h with ⟨e,_⟩ | ⟨_,_,_,⟨e,_⟩ | ⟨_,e⟩,_⟩ | ⟨_,⟨e,_⟩ | ⟨_,e⟩⟩
   ·exact e
   ·exact e
   ·cases e
   ·exact e
   ·cases e
  rw [key hi,key hj]
 sendC:=by
  intro q ch i l c' ok pub nx hI hi ha
  obtain ⟨k,rfl,_,rfl,_⟩:=pipeAct_send (c:=c) (n:=n) (val:=val) ha
  rcases hI.who hi with ⟨_,h | h⟩ | ⟨_,_,h,_⟩ | ⟨_,⟨_,h | h⟩ | ⟨_,h⟩⟩
  ·cases h
  ·cases h
  ·exact h
  ·cases h
  ·cases h
  ·cases h
 recvC:=by
  intro q ch i l c' ok nx sh hI hi ha
  obtain ⟨k,rfl,rfl,_⟩:=pipeAct_recv (c:=c) (n:=n) (val:=val) ha
  rcases hI.who hi with ⟨_,h | h⟩ | ⟨_,_,h,_⟩ | ⟨h,_⟩
  ·cases h
  ·cases h
  ·exact ⟨_,h⟩
  ·exact ⟨_,h⟩
 meet:=by
  intro q ch i j li lj c' ok pub nx ok' nx' sh v hI hi hj ha hb hv hp
  obtain ⟨k,rfl,hk,rfl,rfl,rfl,rfl⟩:=pipeAct_send (c:=c) (n:=n) (val:=val) ha
  obtain ⟨k',rfl,_,rfl,rfl,rfl⟩:=pipeAct_recv (c:=c') (n:=n) (val:=val) hb
  cases hI with
  | a l' hl h0 hg =>
   have : i = 0:=Classical.byContradiction λ e => by rw [hg i e] at hi; cases hi
   subst this; rw [h0] at hi; cases hi; rcases hl with h | h <;> cases h
  | b j' k2 hj' hg hk2 h0 hjr hc =>
   have e1 : i = j':=Classical.byContradiction λ e => by
    by_cases e0 : i = 0
    ·subst e0; rw [h0] at hi; cases hi
    ·rw [hg i e0 e] at hi; cases hi
   subst e1
   rw [hjr] at hi; cases hi
   have e2 : j = 0:=Classical.byContradiction λ e => by
    by_cases e0 : j = i
    ·subst e0; rw [hjr] at hj; cases hj
    ·rw [hg j e e0] at hj; cases hj
   subst e2
   rw [h0] at hj; cases hj
   refine ⟨⟨hk,hv⟩,?_⟩
   refine .b i (k + 1) hj' (λ a h1 h2 => ?_) hk ?_ ?_ ?_
   ·rw [upd_ne _ _ h1,upd_ne _ _ h2]; exact hg a h1 h2
   ·rw [upd_same]
   ·rw [upd_ne _ _ hj',upd_same]
   ·simp [Chs.opn,hc]
  | d j' hj' hg hc h0 hjr =>
   exfalso
   rcases PipeInv.who (.d j' hj' hg hc h0 hjr) hi with ⟨_,h | h⟩ | ⟨_,_,h,_⟩ | ⟨_,⟨_,h | h⟩ | ⟨_,h⟩⟩
   ·cases h
   ·cases h
   ·rw [hc] at h; cases h
   ·cases h
   ·cases h
   ·cases h
 shut:=by
  intro q ch i l c' ok nx sh hI hi ha hc1
  obtain ⟨k,rfl,rfl,rfl,rfl,rfl⟩:=pipeAct_recv (c:=c) (n:=n) (val:=val) ha
  cases hI with
  | a l' hl h0 hg =>
   have : i = 0:=Classical.byContradiction λ e => by rw [hg i e] at hi; cases hi
   subst this; rw [h0] at hi; cases hi; rcases hl with h | h <;> cases h
  | b j' k2 hj' hg hk2 h0 hjr hc => rw [hc] at hc1; cases hc1
  | d j' hj' hg hc h0 hjr =>
   have e2 : i = 0:=Classical.byContradiction λ e => by
    by_cases e0 : i = j'
    ·subst e0; rcases hjr with hjr | hjr <;> rw [hjr] at hi <;> cases hi
    ·rw [hg i e e0] at hi; cases hi
   subst e2
   have hkn : k = n:=by rcases h0 with h0 | h0 | h0 <;> rw [h0] at hi <;> cases hi; rfl
   refine ⟨by rw [hkn]; rfl,.d j' hj' (λ a h1 h2 => ?_) hc (.inr (.inl (upd_same _ _ _))) ?_⟩
   ·rw [upd_ne _ _ h1]; exact hg a h1 h2
   ·rw [upd_ne _ _ hj']; exact hjr
 close:=by
  intro q ch i l c' nx hI hi ha
  obtain ⟨k,rfl,hk,rfl,rfl⟩:=pipeAct_close (c:=c) (n:=n) (val:=val) ha
  cases hI with
  | a l' hl h0 hg =>
   have : i = 0:=Classical.byContradiction λ e => by rw [hg i e] at hi; cases hi
   subst this; rw [h0] at hi; cases hi; rcases hl with h | h <;> cases h
  | b j' k2 hj' hg hk2 h0 hjr hc =>
   have e1 : i = j':=Classical.byContradiction λ e => by
    by_cases e0 : i = 0
    ·subst e0; rw [h0] at hi; cases hi
    ·rw [hg i e0 e] at hi; cases hi
   subst e1
   rw [hjr] at hi; cases hi
   have : k = n:=by omega
   subst this
   refine ⟨hc,.d i hj' (λ a h1 h2 => ?_) (upd_same _ _ _) (.inl ?_) (.inl (upd_same _ _ _))⟩
   ·rw [upd_ne _ _ h2]; exact hg a h1 h2
   ·rw [upd_ne _ _ (Ne.symm hj')]; exact h0
  | d j' hj' hg hc h0 hjr =>
   exfalso
   rcases PipeInv.who (.d j' hj' hg hc h0 hjr) hi with ⟨_,h | h⟩ | ⟨_,_,h,_⟩ | ⟨_,⟨_,h | h⟩ | ⟨_,h⟩⟩
   ·cases h
   ·cases h
   ·rw [hc] at h; cases h
   ·cases h
   ·cases h
   ·cases h
 add:=by
  intro q ch i l nx hI hi ha
  obtain ⟨rfl,rfl⟩:=pipeAct_add (c:=c) (n:=n) (val:=val) ha
  cases hI with
  | a l' hl h0 hg =>
   have : i = 0:=Classical.byContradiction λ e => by rw [hg i e] at hi; cases hi
   subst this
   refine ⟨rfl,rfl,rfl,.a .m1 (.inr rfl) (upd_same _ _ _) λ a h => ?_⟩
   rw [upd_ne _ _ h]; exact hg a h
  | b j' k2 hj' hg hk2 h0 hjr hc =>
   exfalso
   by_cases e0 : i = 0
   ·subst e0; rw [h0] at hi; cases hi
   ·by_cases e1 : i = j'
    ·subst e1; rw [hjr] at hi; cases hi
    ·rw [hg i e0 e1] at hi; cases hi
  | d j' hj' hg hc h0 hjr =>
   exfalso
   rcases PipeInv.who (.d j' hj' hg hc h0 hjr) hi with ⟨e,_⟩ | ⟨_,_,h,_⟩ | ⟨_,⟨_,h | h⟩ | ⟨_,h⟩⟩
   ·subst e; rcases h0 with h0 | h0 | h0 <;> rw [h0] at hi <;> cases hi
   ·rw [hc] at h; cases h
   ·cases h
   ·cases h
   ·cases h
 spawn:=by
  intro q ch i l pub lc nx k hI hi ha
  obtain ⟨rfl,rfl,rfl,rfl⟩:=pipeAct_spawn (c:=c) (n:=n) (val:=val) ha
  cases hI with
  | a l' hl h0 hg =>
   have : i = 0:=Classical.byContradiction λ e => by rw [hg i e] at hi; cases hi
   subst this
   refine ⟨rfl,rfl,rfl,λ hk hk0 _ => .b k 0 hk0 (λ a h1 h2 => ?_) (Nat.zero_le _) ?_ (upd_same _ _ _) (by simp [Chs.opn])⟩
   ·rw [upd_ne _ _ h2,upd_ne _ _ h1]; exact hg a h1
   ·rw [upd_ne _ _ (Ne.symm hk0),upd_same]
  | b j' k2 hj' hg hk2 h0 hjr hc =>
   exfalso
   by_cases e0 : i = 0
   ·subst e0; rw [h0] at hi; cases hi
   ·by_cases e1 : i = j'
    ·subst e1; rw [hjr] at hi; cases hi
    ·rw [hg i e0 e1] at hi; cases hi
  | d j' hj' hg hc h0 hjr =>
   exfalso
   rcases PipeInv.who (.d j' hj' hg hc h0 hjr) hi with ⟨e,_⟩ | ⟨_,_,h,_⟩ | ⟨_,⟨_,h | h⟩ | ⟨_,h⟩⟩
   ·subst e; rcases h0 with h0 | h0 | h0 <;> rw [h0] at hi <;> cases hi
   ·rw [hc] at h; cases h
   ·cases h
   ·cases h
   ·cases h
 done:=by
  intro q ch i l hI hi ha
  obtain rfl:=pipeAct_done (c:=c) (n:=n) (val:=val) ha
  cases hI with
  | a l' hl h0 hg =>
   have : i = 0:=Classical.byContradiction λ e => by rw [hg i e] at hi; cases hi
   subst this; rw [h0] at hi; cases hi; rcases hl with h | h <;> cases h
  | b j' k2 hj' hg hk2 h0 hjr hc =>
   exfalso
   by_cases e0 : i = 0
   ·subst e0; rw [h0] at hi; cases hi
   ·by_cases e1 : i = j'
    ·subst e1; rw [hjr] at hi; cases hi
    ·rw [hg i e0 e1] at hi; cases hi
  | d j' hj' hg hc h0 hjr =>
   have e0 : i ≠ 0:=λ e => by subst e; rcases h0 with h0 | h0 | h0 <;> rw [h0] at hi <;> cases hi
   have e1 : i = j':=Classical.byContradiction λ e => by rw [hg i e0 e] at hi; cases hi
   subst e1
   refine ⟨e0,.d i hj' (λ a h1 h2 => ?_) hc ?_ (.inr (upd_same _ _ _))⟩
   ·rw [upd_ne _ _ h2]; exact hg a h1 h2
   ·rw [upd_ne _ _ (Ne.symm e0)]; exact h0
 wait:=by
  intro q ch i l hI hi ha
  obtain rfl:=pipeAct_wait (c:=c) (n:=n) (val:=val) ha
  cases hI with
  | a l' hl h0 hg =>
   have : i = 0:=Classical.byContradiction λ e => by rw [hg i e] at hi; cases hi
   subst this; rw [h0] at hi; cases hi; rcases hl with h | h <;> cases h
  | b j' k2 hj' hg hk2 h0 hjr hc =>
   exfalso
   by_cases e0 : i = 0
   ·subst e0; rw [h0] at hi; cases hi
   ·by_cases e1 : i = j'
    ·subst e1; rw [hjr] at hi; cases hi
    ·rw [hg i e0 e1] at hi; cases hi
  | d j' hj' hg hc h0 hjr =>
   have e0 : i = 0:=Classical.byContradiction λ e => by
    by_cases e1 : i = j'
    ·subst e1; rcases hjr with hjr | hjr <;> rw [hjr] at hi <;> cases hi
    ·rw [hg i e e1] at hi; cases hi
   subst e0
   refine ⟨rfl,rfl,.d j' hj' (λ a h1 h2 => ?_) hc (.inr (.inr (upd_same _ _ _))) ?_⟩
   ·rw [upd_ne _ _ h1]; exact hg a h1 h2
   ·rw [upd_ne _ _ hj']; exact hjr
 prog:=by
  intro q ch hI hB
  cases hI with
  | a l' hl h0 hg =>
   exfalso
   have:=hB 0 l' h0
   rcases hl with rfl | rfl <;> exact this
  | b j' k2 hj' hg hk2 h0 hjr hc =>
   exfalso
   have h1:=hB j' _ hjr
   unfold Proto.Blocked pipe at h1
   simp only [pipeAct] at h1
   by_cases hk : k2 < n
   ·simp only [hk,if_true] at h1
    exact h1 ⟨0,.rv k2,_,_,_,h0,rfl⟩
   ·simp only [hk,if_false] at h1
  | d j' hj' hg hc h0 hjr =>
   have hj2 : q j' = .over .dn:=hjr.resolve_left λ e => by exact hB j' _ e
   rcases h0 with h0 | h0 | h0
   ·exfalso
    have h1:=hB 0 _ h0
    unfold Proto.Blocked pipe at h1
    simp only [pipeAct] at h1
    rw [hc] at h1
    exact absurd h1.1 (by simp)
   ·exfalso; exact hB 0 _ h0
   ·refine ⟨h0,λ i l h => ?_⟩
    by_cases e0 : i = 0
    ·subst e0; rw [h0] at h; cases h
    ·by_cases e1 : i = j'
     ·subst e1; rw [hj2] at h; cases h
     ·rw [hg i e0 e1] at h; cases h
 pendC:=by
  intro l l' c' v ok pub nx ha hl
  obtain ⟨k,rfl,hk,rfl,rfl,rfl,rfl⟩:=pipeAct_send (c:=c) (n:=n) (val:=val) ha
  subst hl; rfl
 pendR:=by
  intro l l' c' v ok nx sh ha hl
  obtain ⟨k,rfl,rfl,rfl,rfl,rfl⟩:=pipeAct_recv (c:=c) (n:=n) (val:=val) ha
  rcases hl with rfl | rfl <;> rfl
 pendX:=by
  intro l c' nx ha
  obtain ⟨k,rfl,hk,rfl,rfl⟩:=pipeAct_close (c:=c) (n:=n) (val:=val) ha
  rfl
 few:=by
  intro q ch hI m
  have : ∃ j,∀ i,i ≠ 0 -> i ≠ j -> q i = .gone:=by
   cases hI with
   | a l' hl h0 hg => exact ⟨0,λ i h _ => hg i h⟩
   | b j' k2 hj' hg hk2 h0 hjr hc => exact ⟨j',hg⟩
   | d j' hj' hg hc h0 hjr => exact ⟨j',hg⟩
  obtain ⟨j,hj⟩:=this
  have:=num_two hj m
  split at this <;> split at this <;> omega
end
end Go.Mt
namespace Go.Mt
open Go.Conc Go.RowKit Go.Conc.Lib Go.ConcR.Gen
open Go.ConcR (KK wgBlock WgAt stA smA rd wr mk Payload DC0)
section
variable {L₀ : Type} {P : Program} {ty : TypeId} {Wg : Nat} {A : Proto L₀} {Fin : Goroutine -> World -> Prop}
theorem Terr.grow_self (τ : Terr) (w : World) : τ.grow w w = τ:=by
 obtain ⟨a,b,c⟩:=τ
 simp only [Terr.grow,Terr.mk.injEq,and_true]
 funext x
 exact propext ⟨λ h => h.elim id λ h => by omega,.inl⟩
theorem Gua.refl (O : Nat -> Prop) (w : World) : Gua O w w:=⟨rfl,rfl,rfl,Nat.le_refl _,λ _ _ _ => rfl⟩
theorem BehE.running {main : Bool} {ph : Ph L₀} {d : Nat} {τ : Terr} {g : Goroutine} {w : World} (h : BehE P ty Wg A Fin main ph d τ g w) : g.status = .running:=by
 obtain ⟨r,hr⟩:=h
 cases r with | mk ι f => exact hr.1
theorem BehE.goes {main : Bool} {ph : Ph L₀} {d : Nat} {τ : Terr} (hl : ph.live) : ∀ (n : Nat) {g : Goroutine} {w : World},Goes P main (Suf ty Wg τ) DC0 (BehE P ty Wg A Fin main ph d τ) n g w -> BehE P ty Wg A Fin main ph d τ g w:=by
 intro n
 induction n with
 | zero => exact λ {g w} h => h w (Suf.refl)
 | succ n ih =>
  intro g w h
  rcases h with h | ⟨hs,h⟩
  ·exact h w (Suf.refl)
  ·refine BehE.own hs hl λ w₁ s => ?_
   obtain ⟨g₁,w',es,hgo,⟨e1,e2⟩,hg⟩:=goes_elim (h w₁ s)
   subst e1 e2
   have hb:=ih hg
   refine ⟨g₁,w',#[],hgo,hb.running,Gua.refl _ _,λ e he => by simp at he,?_⟩
   rw [Terr.grow_self]
   exact hb
theorem BehE.idles {main : Bool} {ph : Ph L₀} {d : Nat} {τ : Terr} (hl : ∀ {g w},Idle1 P ty Wg (BehE P ty Wg A Fin) main ph d τ g w -> Way1 P ty Wg (BehE P ty Wg A Fin) main ph d τ g w) : ∀ (n : Nat) {g : Goroutine} {w : World},Goes P main (Suf ty Wg τ) DC0 (BehE P ty Wg A Fin main ph d τ) n g w -> BehE P ty Wg A Fin main ph d τ g w:=by
 intro n
 induction n with
 | zero => exact λ {g w} h => h w (Suf.refl)
 | succ n ih =>
  intro g w h
  rcases h with h | ⟨hs,h⟩
  ·exact h w (Suf.refl)
  ·refine BehE.mk hs (.inl (hl λ w₁ s => ?_))
   obtain ⟨g₁,w',es,hgo,⟨e1,e2⟩,hg⟩:=goes_elim (h w₁ s)
   subst e1 e2
   have hb:=ih hg
   exact ⟨g₁,#[],hgo,hb.running,λ e he => by simp at he,hb⟩
theorem BehE.mark {main : Bool} {ph : Ph L₀} {d : Nat} {τ : Terr} (hl : ph.live) {g : Goroutine} {w : World} (hs : g.status = .running) {g' : Goroutine} {m : Mark} (hgo : ∀ w₁,Suf ty Wg τ w w₁ -> stepG P main g w₁ = .go g' w₁ #[Go.ConcR.mk m])
  (hm : EvT Wg main τ.own τ.still (Go.ConcR.mk m)) (hb : ∀ w₁,Suf ty Wg τ w w₁ -> BehE P ty Wg A Fin main ph (deafBehind d #[Go.ConcR.mk m]) τ g' w₁) : BehE P ty Wg A Fin main ph d τ g w:=by
 refine BehE.own hs hl λ w₁ s => ⟨g',w₁,#[Go.ConcR.mk m],hgo w₁ s,(hb w₁ s).running,Gua.refl _ _,λ e he => ?_,?_⟩
 ·rw [Array.mem_singleton] at he
  subst he
  rw [Terr.grow_self]; exact hm
 ·rw [Terr.grow_self]; exact hb w₁ s
theorem BehE.imark {main : Bool} {l : L₀} {d : Nat} {τ : Terr} {g : Goroutine} {w : World} (hs : g.status = .running) {g' : Goroutine} {m : Mark} (hgo : ∀ w₁,Suf ty Wg τ w w₁ -> stepG P main g w₁ = .go g' w₁ #[Go.ConcR.mk m])
  (hm : Event.mute (Go.ConcR.mk m) = true) (hb : ∀ w₁,Suf ty Wg τ w w₁ -> BehE P ty Wg A Fin main (.rel l) (deafBehind d #[Go.ConcR.mk m]) τ g' w₁) : BehE P ty Wg A Fin main (.rel l) d τ g w:=by
 refine BehE.mk hs (.inl λ w₁ s => ⟨g',#[Go.ConcR.mk m],hgo w₁ s,(hb w₁ s).running,λ e he => ?_,hb w₁ s⟩)
 rw [Array.mem_singleton] at he
 subst he
 exact hm
theorem WgLive.cell0 {w : World} (h : WgLive ty Wg w) : ∃ v,w.cell? ⟨Wg,0,none⟩ = some v:=let ⟨_,_,x⟩:=h; ⟨_,x.cellSt⟩
theorem WgLive.cell1 {w : World} (h : WgLive ty Wg w) : ∃ v,w.cell? ⟨Wg,1,none⟩ = some v:=let ⟨_,_,x⟩:=h; ⟨_,x.cellSm⟩
structure KeepF (ty : TypeId) (Wg : Nat) (τ : Terr) (F : World -> Prop) : Prop where
 suf : ∀ w w₁,Suf ty Wg τ w w₁ -> F w -> F w₁
 wg : ∀ w a v,a.block = Wg -> F w -> F (w.setCell a v)
theorem KeepF.rely {τ : Terr} {F : World -> Prop} (k : KeepF ty Wg τ F) {w w₁ : World} (h : F w /\ WgLive ty Wg w) (s : Suf ty Wg τ w w₁) : F w₁ /\ WgLive ty Wg w₁:=⟨k.suf _ _ s h.1,s.live h.2⟩
end
end Go.Mt
namespace Go.Mt
open Go.Conc Go.RowKit Go.Conc.Lib Go.ConcR.Gen
open Go.ConcN.Gen (WgLive.cell0 WgLive.cell1)
open Go.ConcN (st_flag st_waiters)
open Go.ConcR (KK wgBlock WgAt stA smA rd wr mk Payload DC0)
variable [Payload] {L : WgLink}
section
variable {L₀ : Type} {P : Program} {Wg : Nat} {A : Proto L₀} {Fin : Goroutine -> World -> Prop} {F : World -> Prop}
 {b₀ : Frame} {a₀ : Go.Act} {ops₀ : Array Oper} {i₀ : Nat} {rest₀ : List Nat} {k₀ : List Item} {cs : List Frame} {τ : Terr} {l nx : L₀}
set_option maxRecDepth 100000 in
set_option maxHeartbeats 8000000 in
theorem addW (H : WgLib P L) (hact : A.act l = .add nx) (kf : KeepF L.tWg Wg τ F)
  (hT : ∀ w,F w -> WgLive L.tWg Wg w -> BehE P L.tWg Wg A Fin true (.usr nx) 0 τ (G (b₀.at (a₀.put ((ops₀[i₀]?).bind (·.dst)) (.tuple #[])) (.inRegion ops₀ rest₀ :: k₀)) cs) w)
  (w : World) (hF : F w /\ WgLive L.tWg Wg w) :
  BehE P L.tWg Wg A Fin true (.usr l) 0 τ (G ((base L.add).at ⟨#[.pointer (some ⟨Wg,0,none⟩),.int .i64 1,undef,undef,undef,undef,undef,undef,undef,undef,undef,undef,undef,undef,undef,undef,undef,undef,undef,undef,undef,undef,undef,undef,undef,undef,undef,undef,undef,undef,undef,undef,undef,undef,undef,undef,undef,undef,undef,undef,undef,undef,undef,undef,undef,undef,undef,undef,undef,undef,undef,undef,undef,undef,undef,undef,undef,undef,undef,undef,undef,undef,undef,undef,undef,undef,undef,undef,undef,undef,undef,undef,undef,undef,undef,undef,undef,undef,undef,undef,undef,undef,undef,undef,undef,undef,undef,undef,undef,undef,undef,undef,undef,undef,undef,undef,undef,undef,undef,undef,undef,undef,undef,undef,undef,undef,undef,undef,undef,undef,undef,undef,undef,undef,undef,undef,undef],[]⟩ [.code (body_add L)]) (b₀.at a₀ (.inRegion ops₀ (i₀ :: rest₀) :: k₀) :: cs)) w:=by
 lib_facts
 simp only [body_add,addFn,Option.getD_some]
 refine BehE.goes (ph:=.usr l) trivial 30 ?_
 u_c stepG_seq kf.rely hF
 u_cond true kf.rely hF
 u_c stepG_seq kf.rely hF
 u_c stepG_seq kf.rely hF
 u_reg kf.rely hF
 u_op kf.rely hF
 u_op kf.rely hF
 u_c stepG_region_end kf.rely hF
 u_cond false kf.rely hF
 u_c stepG_skip kf.rely hF
 u_c stepG_seq kf.rely hF
 u_reg kf.rely hF
 refine Goes.stop (λ w₁ h₁ => ?_)
 replace hF:=kf.rely hF h₁
 clear h₁
 refine BehE.mark (ph:=.usr l) trivial rfl (λ w₂ s => stepG_mark0 .disable (by simp) rfl rfl (by k_ne) rfl H.f_disable (x_disable_n L) (x_disable_b L) (x_disable_x L) (x_disable_f L)) trivial (λ w₂ s => ?_)
 replace hF:=kf.rely hF s
 clear s
 rw [show deafBehind 0 #[Go.ConcR.mk .disable] = 1 from rfl]
 walk_nrm
 refine BehE.goes (ph:=.usr l) trivial 60 ?_
 u_c stepG_region_end kf.rely hF
 u_reg kf.rely hF
 u_defer kf.rely hF
 u_c stepG_region_end kf.rely hF
 u_c stepG_seq kf.rely hF
 u_reg kf.rely hF
 u_op kf.rely hF
 u_c stepG_region_end kf.rely hF
 u_c stepG_seq kf.rely hF
 u_c stepG_seq kf.rely hF
 u_reg kf.rely hF
 u_bub kf.rely hF
 u_c stepG_region_end kf.rely hF
 u_cond false kf.rely hF
 u_c stepG_skip kf.rely hF
 u_c stepG_seq kf.rely hF
 u_reg kf.rely hF
 u_op kf.rely hF
 u_op kf.rely hF
 u_op kf.rely hF
 u_op kf.rely hF
 u_op kf.rely hF
 u_op kf.rely hF
 u_call H.f_uAdd (nm_uAdd L) uAddFn kf.rely hF
 u_c stepG_seq kf.rely hF
 u_reg kf.rely hF
 u_op kf.rely hF
 u_c stepG_region_end kf.rely hF
 u_c stepG_seq kf.rely hF
 u_reg kf.rely hF
 u_op kf.rely hF
 u_op kf.rely hF
 u_op kf.rely hF
 u_op kf.rely hF
 refine Goes.stop (λ w₁ h₁ => ?_)
 replace hF:=kf.rely hF h₁
 clear h₁
 refine BehE.usr rfl ?_
 unfold AtUsr
 rw [hact]
 intro w₂ s₂ v hv hw
 replace hF:=kf.rely hF s₂
 clear s₂
 rcases Nat.eq_zero_or_pos v with rfl | hvp
 ·replace hw : WgAt L.tWg Wg w₂ 0 0:=by simpa using hw
  have z : st (0 + 1) 0 = .int .u64 KK:=by simp [st]
  rw [z]
  have e0 : IntKind.u64.wrap (0 + 4294967296) = KK:=by decide
  refine ⟨_,(stepG_add_atomic rfl rfl (by k_ne) rfl H.f_addU64 (x_addU64_n L) (x_addU64_b L) (x_addU64_x L) .u64 (x_addU64_f L) rfl rfl hw.cellSt (hw.thaw 0)).trans (by rw [e0]; rfl),rfl,?_⟩
  replace hF : F (w₂.setCell (stA Wg) (.int .u64 KK)) /\ WgLive L.tWg Wg (w₂.setCell (stA Wg) (.int .u64 KK)):=⟨kf.wg _ _ _ rfl hF.1,⟨_,_,hw.setSt _⟩⟩
  clear hw
  simp only [KK] at hF ⊢
  walk_nrm
  refine BehE.goes (ph:=.usr nx) trivial 110 ?_
  u_op kf.rely hF
  u_c stepG_region_end kf.rely hF
  u_c stepG_ret' kf.rely hF
  u_leave1 H.f_uAdd kf.rely hF
  u_op kf.rely hF
  u_c stepG_region_end kf.rely hF
  u_c stepG_seq kf.rely hF
  u_c stepG_seq kf.rely hF
  u_reg kf.rely hF
  u_op kf.rely hF
  u_op kf.rely hF
  u_op kf.rely hF
  u_op kf.rely hF
  u_skip kf.rely hF
  u_skip kf.rely hF
  u_op kf.rely hF
  u_c stepG_region_end kf.rely hF
  u_cond false kf.rely hF
  u_c stepG_skip kf.rely hF
  u_c stepG_seq kf.rely hF
  u_reg kf.rely hF
  u_op kf.rely hF
  u_op kf.rely hF
  u_op kf.rely hF
  u_op kf.rely hF
  u_c stepG_region_end kf.rely hF
  u_c stepG_seq kf.rely hF
  u_reg kf.rely hF
  u_op kf.rely hF
  u_op kf.rely hF
  u_op kf.rely hF
  u_op kf.rely hF
  u_c stepG_region_end kf.rely hF
  u_c stepG_seq kf.rely hF
  u_c stepG_seq kf.rely hF
  u_reg kf.rely hF
  u_op kf.rely hF
  u_op kf.rely hF
  u_op kf.rely hF
  u_op kf.rely hF
  u_op kf.rely hF
  u_op kf.rely hF
  u_op kf.rely hF
  u_op kf.rely hF
  u_op kf.rely hF
  u_op kf.rely hF
  u_c stepG_region_end kf.rely hF
  u_cond true kf.rely hF
  u_reg kf.rely hF
  u_op kf.rely hF
  u_op kf.rely hF
  u_op kf.rely hF
  u_conv H.underlying_tPU32 H.room_tU32 (WgLive.cell1 hF.2).choose_spec kf.rely hF
  refine Goes.stop (λ w₃ h₃ => ?_)
  replace hF:=kf.rely hF h₃
  clear h₃
  refine BehE.mark (ph:=.usr nx) trivial rfl (λ w₄ s => stepG_markAt .read (by simp) rfl rfl (by k_ne) rfl H.f_raceRead (x_raceRead_n L) (x_raceRead_b L) (x_raceRead_x L) (x_raceRead_f L) (ad:=⟨Wg,1,none⟩) (by simp [Go.Act.eval])) ⟨rfl,rfl⟩ (λ w₄ s => ?_)
  replace hF:=kf.rely hF s
  clear s
  rw [show deafBehind 1 #[Go.ConcR.mk (.read ⟨Wg,1,none⟩)] = 1 from rfl]
  walk_nrm
  refine BehE.goes (ph:=.usr nx) trivial 110 ?_
  u_c stepG_region_end kf.rely hF
  u_c stepG_seq kf.rely hF
  u_c stepG_seq kf.rely hF
  u_reg kf.rely hF
  u_op kf.rely hF
  u_op kf.rely hF
  u_c stepG_region_end kf.rely hF
  u_cond false kf.rely hF
  u_c stepG_skip kf.rely hF
  u_c stepG_seq kf.rely hF
  u_c stepG_seq kf.rely hF
  u_reg kf.rely hF
  u_op kf.rely hF
  u_op kf.rely hF
  u_op kf.rely hF
  u_skip kf.rely hF
  u_skip kf.rely hF
  u_op kf.rely hF
  u_op kf.rely hF
  u_skip kf.rely hF
  u_skip kf.rely hF
  u_skip kf.rely hF
  u_skip kf.rely hF
  u_op kf.rely hF
  u_c stepG_region_end kf.rely hF
  u_cond false kf.rely hF
  u_c stepG_skip kf.rely hF
  u_c stepG_seq kf.rely hF
  u_c stepG_seq kf.rely hF
  u_reg kf.rely hF
  u_op kf.rely hF
  u_op kf.rely hF
  u_op kf.rely hF
  u_skip kf.rely hF
  u_skip kf.rely hF
  u_op kf.rely hF
  u_c stepG_region_end kf.rely hF
  u_cond true kf.rely hF
  u_c stepG_ret' kf.rely hF
  refine Goes.stop (λ w₃ h₃ => ?_)
  replace hF:=kf.rely hF h₃
  clear h₃
  refine BehE.mark (ph:=.usr nx) trivial rfl (λ w₄ s => stepG_unwind_entry (v:=.tuple #[]) (evs:=#[Go.ConcR.mk .enable]) rfl H.f_enable (x_enable_n L) (x_enable_b L) (x_enable_x L) (x_enable_f L) (by simp [Extern.Race.none_]) (by simp [Go.ConcR.mk]) (by simp [Go.ConcR.mk])) trivial (λ w₄ s => ?_)
  replace hF:=kf.rely hF s
  clear s
  rw [show deafBehind 1 #[Go.ConcR.mk .enable] = 0 from rfl]
  refine BehE.goes (ph:=.usr nx) trivial 2 ?_
  u_leave0 H.f_add kf.rely hF
  exact Goes.stop (λ w₅ h₅ => hT w₅ (kf.rely hF h₅).1 (kf.rely hF h₅).2)
 ·obtain ⟨V,hV⟩ : ∃ V : Int,V = (v : Int) + 1:=⟨_,rfl⟩
  obtain ⟨S,hS⟩ : ∃ S : Int,S = V * KK:=⟨_,rfl⟩
  have eS : IntKind.u64.wrap ((v : Int) * KK + 4294967296) = S:=by rw [IntKind.wrap_u64,hS,hV]; simp only [KK]; omega
  have z : st (v + 1) 0 = .int .u64 S:=by simp [st,hS,hV]
  rw [z]
  have a1 : S / 4294967296 = V:=by rw [hS]; simp only [KK]; omega
  have b1 : bits .and .u64 S 2147483648 = 0:=by rw [hS,hV]; have:=st_flag (v + 1) 0 (by omega) (by omega); simpa [KK] using this
  have b2 : bits .and .u64 S 2147483647 = 0:=by rw [hS,hV]; have:=st_waiters (v + 1) 0 (by omega) (by omega); simpa [KK] using this
  have c1 : IntKind.i32.wrap V = V:=by rw [IntKind.wrap_i32]; omega
  have hV1 : 1 < V:=by omega
  have hV2 : V < 2147483648:=by omega
  have q1 : (V == 1) = false:=by simp; omega
  have q2 : decide (V = 1) = false:=decide_eq_false (by omega)
  have q3 : decide (V < 0) = false:=decide_eq_false (by omega)
  have q4 : decide (0 < V) = true:=decide_eq_true (by omega)
  have q5 : (V == 0) = false:=by simp; omega
  have q6 : decide (V = 0) = false:=decide_eq_false (by omega)
  refine ⟨_,(stepG_add_atomic rfl rfl (by k_ne) rfl H.f_addU64 (x_addU64_n L) (x_addU64_b L) (x_addU64_x L) .u64 (x_addU64_f L) rfl rfl hw.cellSt (hw.thaw 0)).trans (by rw [eS]; rfl),rfl,?_⟩
  replace hF : F (w₂.setCell (stA Wg) (.int .u64 S)) /\ WgLive L.tWg Wg (w₂.setCell (stA Wg) (.int .u64 S)):=⟨kf.wg _ _ _ rfl hF.1,⟨_,_,hw.setSt _⟩⟩
  clear hw hS hV eS z
  walk_nrm
  refine BehE.goes (ph:=.usr nx) trivial 130 ?_
  u_op kf.rely hF
  u_c stepG_region_end kf.rely hF
  u_c stepG_ret' kf.rely hF
  u_leave1 H.f_uAdd kf.rely hF
  u_op kf.rely hF
  u_c stepG_region_end kf.rely hF
  u_c stepG_seq kf.rely hF
  u_c stepG_seq kf.rely hF
  u_reg kf.rely hF
  u_op kf.rely hF
  u_op kf.rely hF
  u_op kf.rely hF
  u_op kf.rely hF
  u_skip kf.rely hF
  u_skip kf.rely hF
  u_op kf.rely hF
  u_c stepG_region_end kf.rely hF
  u_cnd false kf.rely hF
  u_c stepG_skip kf.rely hF
  u_c stepG_seq kf.rely hF
  u_reg kf.rely hF
  u_op kf.rely hF
  u_op kf.rely hF
  u_op kf.rely hF
  u_op kf.rely hF
  u_c stepG_region_end kf.rely hF
  u_c stepG_seq kf.rely hF
  u_reg kf.rely hF
  u_op kf.rely hF
  u_op kf.rely hF
  u_op kf.rely hF
  u_op kf.rely hF
  u_c stepG_region_end kf.rely hF
  u_c stepG_seq kf.rely hF
  u_c stepG_seq kf.rely hF
  u_reg kf.rely hF
  u_op kf.rely hF
  u_op kf.rely hF
  u_op kf.rely hF
  u_op kf.rely hF
  u_op kf.rely hF
  u_op kf.rely hF
  u_op kf.rely hF
  u_op kf.rely hF
  u_op kf.rely hF
  u_op kf.rely hF
  u_c stepG_region_end kf.rely hF
  u_cnd false kf.rely hF
  u_c stepG_skip kf.rely hF
  u_c stepG_seq kf.rely hF
  u_c stepG_seq kf.rely hF
  u_reg kf.rely hF
  u_op kf.rely hF
  u_op kf.rely hF
  u_c stepG_region_end kf.rely hF
  u_cnd false kf.rely hF
  u_c stepG_skip kf.rely hF
  u_c stepG_seq kf.rely hF
  u_c stepG_seq kf.rely hF
  u_reg kf.rely hF
  u_op kf.rely hF
  u_op kf.rely hF
  u_op kf.rely hF
  u_skip kf.rely hF
  u_skip kf.rely hF
  u_op kf.rely hF
  u_op kf.rely hF
  u_skip kf.rely hF
  u_skip kf.rely hF
  u_skip kf.rely hF
  u_skip kf.rely hF
  u_op kf.rely hF
  u_c stepG_region_end kf.rely hF
  u_cnd false kf.rely hF
  u_c stepG_skip kf.rely hF
  u_c stepG_seq kf.rely hF
  u_c stepG_seq kf.rely hF
  u_reg kf.rely hF
  u_op kf.rely hF
  u_op kf.rely hF
  u_op kf.rely hF
  u_skip kf.rely hF
  u_skip kf.rely hF
  u_op kf.rely hF
  u_c stepG_region_end kf.rely hF
  u_cnd true kf.rely hF
  u_c stepG_ret' kf.rely hF
  refine Goes.stop (λ w₃ h₃ => ?_)
  replace hF:=kf.rely hF h₃
  clear h₃
  refine BehE.mark (ph:=.usr nx) trivial rfl (λ w₄ s => stepG_unwind_entry (v:=.tuple #[]) (evs:=#[Go.ConcR.mk .enable]) rfl H.f_enable (x_enable_n L) (x_enable_b L) (x_enable_x L) (x_enable_f L) (by simp [Extern.Race.none_]) (by simp [Go.ConcR.mk]) (by simp [Go.ConcR.mk])) trivial (λ w₄ s => ?_)
  replace hF:=kf.rely hF s
  clear s
  rw [show deafBehind 1 #[Go.ConcR.mk .enable] = 0 from rfl]
  refine BehE.goes (ph:=.usr nx) trivial 2 ?_
  u_leave0 H.f_add kf.rely hF
  exact Goes.stop (λ w₅ h₅ => hT w₅ (kf.rely hF h₅).1 (kf.rely hF h₅).2)
end
end Go.Mt
namespace Go.Mt
open Go.Conc Go.RowKit Go.Conc.Lib Go.ConcR.Gen
open Go.ConcN.Gen (WgLive.cell0 WgLive.cell1)
open Go.ConcN (st_flag st_waiters)
open Go.ConcR (KK wgBlock WgAt stA smA rd wr mk Payload DC0)
variable [Payload] {L : WgLink}
section
variable {L₀ : Type} {P : Program} {Wg : Nat} {A : Proto L₀} {Fin : Goroutine -> World -> Prop} {F : World -> Prop}
 {b₀ : Frame} {a₀ : Go.Act} {ops₀ : Array Oper} {i₀ : Nat} {rest₀ : List Nat} {k₀ : List Item} {cs : List Frame} {τ : Terr} {l nx : L₀}
set_option maxRecDepth 100000 in
set_option maxHeartbeats 8000000 in
theorem addNegW (H : WgLib P L) (hact : A.act l = .done) (kf : KeepF L.tWg Wg τ F) (hdep : ∀ w,F w -> A.dep l w) {qt : Nat}
  (hT : QuitsD P qt 0 (G (b₀.at (a₀.put ((ops₀[i₀]?).bind (·.dst)) (.tuple #[])) (.inRegion ops₀ rest₀ :: k₀)) cs)) (w : World) (hF : F w /\ WgLive L.tWg Wg w) :
  BehE P L.tWg Wg A Fin false (.usr l) 0 τ (G ((base L.add).at ⟨#[.pointer (some ⟨Wg,0,none⟩),.int .i64 (-1),undef,undef,undef,undef,undef,undef,undef,undef,undef,undef,undef,undef,undef,undef,undef,undef,undef,undef,undef,undef,undef,undef,undef,undef,undef,undef,undef,undef,undef,undef,undef,undef,undef,undef,undef,undef,undef,undef,undef,undef,undef,undef,undef,undef,undef,undef,undef,undef,undef,undef,undef,undef,undef,undef,undef,undef,undef,undef,undef,undef,undef,undef,undef,undef,undef,undef,undef,undef,undef,undef,undef,undef,undef,undef,undef,undef,undef,undef,undef,undef,undef,undef,undef,undef,undef,undef,undef,undef,undef,undef,undef,undef,undef,undef,undef,undef,undef,undef,undef,undef,undef,undef,undef,undef,undef,undef,undef,undef,undef,undef,undef,undef,undef,undef,undef],[]⟩ [.code (body_add L)]) (b₀.at a₀ (.inRegion ops₀ (i₀ :: rest₀) :: k₀) :: cs)) w:=by
 lib_facts
 simp only [body_add,addFn,Option.getD_some]
 refine BehE.goes (ph:=.usr l) trivial 20 ?_
 u_c stepG_seq kf.rely hF
 u_cond true kf.rely hF
 u_c stepG_seq kf.rely hF
 u_c stepG_seq kf.rely hF
 u_reg kf.rely hF
 u_op kf.rely hF
 u_op kf.rely hF
 u_c stepG_region_end kf.rely hF
 u_cond true kf.rely hF
 u_reg kf.rely hF
 u_op kf.rely hF
 u_conv H.underlying_tWgP H.room_tWg (WgLive.cell0 hF.2).choose_spec kf.rely hF
 refine Goes.stop (λ w₁ h₁ => ?_)
 replace hF:=kf.rely hF h₁
 clear h₁
 refine BehE.usr rfl ?_
 unfold AtUsr
 rw [hact]
 refine ⟨rfl,rfl,λ w₂ s => hdep _ (kf.rely hF s).1,λ w₂ s => ?_⟩
 replace hF:=kf.rely hF s
 clear s
 refine ⟨_,stepG_markAt .releaseMerge (by simp) rfl rfl (by k_ne) rfl H.f_relMerge (x_relMerge_n L) (x_relMerge_b L) (x_relMerge_x L) (x_relMerge_f L) (by simp [Act.eval,stA]),rfl,?_⟩
 refine BehE.idles (ph:=.rel l) id 10 ?_
 walk_nrm
 u_c stepG_region_end kf.rely hF
 u_c stepG_seq kf.rely hF
 u_reg kf.rely hF
 refine Goes.stop (λ w₁ h₁ => ?_)
 replace hF:=kf.rely hF h₁
 clear h₁
 refine BehE.imark rfl (λ w₂ s => stepG_mark0 .disable (by simp) rfl rfl (by k_ne) rfl H.f_disable (x_disable_n L) (x_disable_b L) (x_disable_x L) (x_disable_f L)) rfl (λ w₂ s => ?_)
 replace hF:=kf.rely hF s
 clear s
 rw [show deafBehind 0 #[Go.ConcR.mk .disable] = 1 from rfl]
 refine BehE.idles (ph:=.rel l) id 50 ?_
 walk_nrm
 u_c stepG_region_end kf.rely hF
 u_reg kf.rely hF
 u_defer kf.rely hF
 u_c stepG_region_end kf.rely hF
 u_c stepG_seq kf.rely hF
 u_reg kf.rely hF
 u_op kf.rely hF
 u_c stepG_region_end kf.rely hF
 u_c stepG_seq kf.rely hF
 u_c stepG_seq kf.rely hF
 u_reg kf.rely hF
 u_bub kf.rely hF
 u_c stepG_region_end kf.rely hF
 u_cond false kf.rely hF
 u_c stepG_skip kf.rely hF
 u_c stepG_seq kf.rely hF
 u_reg kf.rely hF
 u_op kf.rely hF
 u_op kf.rely hF
 u_op kf.rely hF
 u_op kf.rely hF
 u_op kf.rely hF
 u_op kf.rely hF
 u_call H.f_uAdd (nm_uAdd L) uAddFn kf.rely hF
 u_c stepG_seq kf.rely hF
 u_reg kf.rely hF
 u_op kf.rely hF
 u_c stepG_region_end kf.rely hF
 u_c stepG_seq kf.rely hF
 u_reg kf.rely hF
 u_op kf.rely hF
 u_op kf.rely hF
 u_op kf.rely hF
 u_op kf.rely hF
 refine Goes.stop (λ w₀ h₀ => ?_)
 replace hF:=kf.rely hF h₀
 clear h₀
 refine BehE.mk rfl (.inr ?_)
 intro w₁ s₁ v wt hwt hv hw
 replace hF:=kf.rely hF s₁
 clear s₁
 have e0 : IntKind.u64.wrap (KK + 18446744069414584320) = 0:=by decide
 have e1 : IntKind.u64.wrap (KK + 1 + 18446744069414584320) = 1:=by decide
 rcases Nat.eq_zero_or_pos v with rfl | hvp <;> (obtain rfl | rfl : wt = 0 \/ wt = 1:=by omega)
 ·-- (0,NOBODY WAITS): IT ONLY LEAVES
  replace hw : WgAt L.tWg Wg w₁ KK 0:=by simpa using hw
  have z : Mt.st 0 0 = .int .u64 0:=by simp [Mt.st]
  rw [z]
  refine ⟨_,(stepG_add_atomic rfl rfl (by k_ne) rfl H.f_addU64 (x_addU64_n L) (x_addU64_b L) (x_addU64_x L) .u64 (x_addU64_f L) rfl rfl hw.cellSt (hw.thaw 0)).trans (by rw [e0]; rfl),rfl,by decide,λ hl => absurd hl.2 (by decide),λ _ => ⟨qt + 89,?_⟩⟩
  clear hw
  walk_nrm
  q_val (.int .u64 0)
  q_c stepG_region_end
  q_c stepG_ret'
  q_leave1 H.f_uAdd
  q_val (.int .u64 0)
  q_c stepG_region_end
  q_c stepG_seq
  q_c stepG_seq
  q_reg
  q_val (.int .u64 0)
  q_val (.int .u64 0)
  q_val (.bool false)
  q_val (.bool false)
  q_skip
  q_skip
  q_val (.bool false)
  q_c stepG_region_end
  q_cond false
  q_c stepG_skip
  q_c stepG_seq
  q_reg
  q_val (.int .u64 0)
  q_val (.int .u64 0)
  q_val (.int .i32 0)
  q_val (.int .i32 0)
  q_c stepG_region_end
  q_c stepG_seq
  q_reg
  q_val (.int .u64 0)
  q_val (.int .u64 0)
  q_val (.int .u32 0)
  q_val (.int .u32 0)
  q_c stepG_region_end
  q_c stepG_seq
  q_c stepG_seq
  q_reg
  q_val (.bool true)
  q_val (.int .i64 (-1))
  q_val (.bool false)
  q_val (.bool false)
  q_val (.bool false)
  q_skip
  q_skip
  q_skip
  q_skip
  q_val (.bool false)
  q_c stepG_region_end
  q_cond false
  q_c stepG_skip
  q_c stepG_seq
  q_c stepG_seq
  q_reg
  q_val (.int .i32 0)
  q_val (.bool false)
  q_c stepG_region_end
  q_cond false
  q_c stepG_skip
  q_c stepG_seq
  q_c stepG_seq
  q_reg
  q_val (.int .u32 0)
  q_val (.bool false)
  q_val (.bool false)
  q_skip
  q_skip
  q_val (.bool false)
  q_val (.bool false)
  q_skip
  q_skip
  q_skip
  q_skip
  q_val (.bool false)
  q_c stepG_region_end
  q_cond false
  q_c stepG_skip
  q_c stepG_seq
  q_c stepG_seq
  q_reg
  q_val (.int .i32 0)
  q_val (.bool false)
  q_val (.bool false)
  q_val (.int .u32 0)
  q_val (.bool true)
  q_val (.bool true)
  q_c stepG_region_end
  q_cond true
  q_c stepG_ret'
  q_enable
  q_leave0 H.f_add
  exact hT
 ·-- (0,THE STARTER WAITS): THE LAST ONE
  replace hw : WgAt L.tWg Wg w₁ (KK + 1) 0:=by simpa using hw
  have z : Mt.st 0 1 = .int .u64 1:=by simp [Mt.st]
  rw [z]
  refine ⟨_,(stepG_add_atomic rfl rfl (by k_ne) rfl H.f_addU64 (x_addU64_n L) (x_addU64_b L) (x_addU64_x L) .u64 (x_addU64_f L) rfl rfl hw.cellSt (hw.thaw 0)).trans (by rw [e1]; rfl),rfl,by decide,λ _ => ?_,λ hl => absurd ⟨rfl,rfl⟩ hl⟩
  replace hF : F (w₁.setCell (stA Wg) (.int .u64 1)) /\ WgLive L.tWg Wg (w₁.setCell (stA Wg) (.int .u64 1)):=⟨kf.wg _ _ _ rfl hF.1,⟨_,_,hw.setSt 1⟩⟩
  clear hw
  refine BehE.idles (ph:=.l1 l) id 120 ?_
  walk_nrm
  u_op kf.rely hF
  u_c stepG_region_end kf.rely hF
  u_c stepG_ret' kf.rely hF
  u_leave1 H.f_uAdd kf.rely hF
  u_op kf.rely hF
  u_c stepG_region_end kf.rely hF
  u_c stepG_seq kf.rely hF
  u_c stepG_seq kf.rely hF
  u_reg kf.rely hF
  u_op kf.rely hF
  u_op kf.rely hF
  u_op kf.rely hF
  u_op kf.rely hF
  u_skip kf.rely hF
  u_skip kf.rely hF
  u_op kf.rely hF
  u_c stepG_region_end kf.rely hF
  u_cond false kf.rely hF
  u_c stepG_skip kf.rely hF
  u_c stepG_seq kf.rely hF
  u_reg kf.rely hF
  u_op kf.rely hF
  u_op kf.rely hF
  u_op kf.rely hF
  u_op kf.rely hF
  u_c stepG_region_end kf.rely hF
  u_c stepG_seq kf.rely hF
  u_reg kf.rely hF
  u_op kf.rely hF
  u_op kf.rely hF
  u_op kf.rely hF
  u_op kf.rely hF
  u_c stepG_region_end kf.rely hF
  u_c stepG_seq kf.rely hF
  u_c stepG_seq kf.rely hF
  u_reg kf.rely hF
  u_op kf.rely hF
  u_op kf.rely hF
  u_op kf.rely hF
  u_op kf.rely hF
  u_op kf.rely hF
  u_skip kf.rely hF
  u_skip kf.rely hF
  u_skip kf.rely hF
  u_skip kf.rely hF
  u_op kf.rely hF
  u_c stepG_region_end kf.rely hF
  u_cond false kf.rely hF
  u_c stepG_skip kf.rely hF
  u_c stepG_seq kf.rely hF
  u_c stepG_seq kf.rely hF
  u_reg kf.rely hF
  u_op kf.rely hF
  u_op kf.rely hF
  u_c stepG_region_end kf.rely hF
  u_cond false kf.rely hF
  u_c stepG_skip kf.rely hF
  u_c stepG_seq kf.rely hF
  u_c stepG_seq kf.rely hF
  u_reg kf.rely hF
  u_op kf.rely hF
  u_op kf.rely hF
  u_op kf.rely hF
  u_op kf.rely hF
  u_op kf.rely hF
  u_op kf.rely hF
  u_op kf.rely hF
  u_skip kf.rely hF
  u_skip kf.rely hF
  u_skip kf.rely hF
  u_skip kf.rely hF
  u_op kf.rely hF
  u_c stepG_region_end kf.rely hF
  u_cond false kf.rely hF
  u_c stepG_skip kf.rely hF
  u_c stepG_seq kf.rely hF
  u_c stepG_seq kf.rely hF
  u_reg kf.rely hF
  u_op kf.rely hF
  u_op kf.rely hF
  u_op kf.rely hF
  u_op kf.rely hF
  u_op kf.rely hF
  u_op kf.rely hF
  u_c stepG_region_end kf.rely hF
  u_cond false kf.rely hF
  u_c stepG_skip kf.rely hF
  u_c stepG_seq kf.rely hF
  u_c stepG_seq kf.rely hF
  u_reg kf.rely hF
  u_op kf.rely hF
  u_op kf.rely hF
  u_op kf.rely hF
  u_call H.f_uLoad (nm_uLoad L) uLoadFn kf.rely hF
  u_c stepG_seq kf.rely hF
  u_reg kf.rely hF
  u_op kf.rely hF
  u_c stepG_region_end kf.rely hF
  u_c stepG_seq kf.rely hF
  u_reg kf.rely hF
  u_op kf.rely hF
  u_op kf.rely hF
  u_op kf.rely hF
  refine Goes.stop (λ w₂ h₂ => ?_)
  replace hF:=kf.rely hF h₂
  clear h₂
  refine BehE.mk rfl (.inr ?_)
  intro w₃ s hw
  replace hF:=kf.rely hF s
  clear s
  refine ⟨_,stepG_load_atomic rfl rfl (by k_ne) rfl H.f_loadU64 (x_loadU64_n L) (x_loadU64_b L) (x_loadU64_x L) .u64 (x_loadU64_f L) rfl hw.cellSt,rfl,by decide,?_⟩
  clear hw
  refine BehE.idles (ph:=.l2 l) id 40 ?_
  walk_nrm
  u_op kf.rely hF
  u_c stepG_region_end kf.rely hF
  u_c stepG_ret' kf.rely hF
  u_leave1 H.f_uLoad kf.rely hF
  u_op kf.rely hF
  u_op kf.rely hF
  u_c stepG_region_end kf.rely hF
  u_cond false kf.rely hF
  u_c stepG_skip kf.rely hF
  u_c stepG_seq kf.rely hF
  u_reg kf.rely hF
  u_op kf.rely hF
  u_op kf.rely hF
  u_op kf.rely hF
  u_call H.f_uStore (nm_uStore L) uStoreFn kf.rely hF
  u_reg kf.rely hF
  u_op kf.rely hF
  u_op kf.rely hF
  u_op kf.rely hF
  u_op kf.rely hF
  refine Goes.stop (λ w₂ h₃ => ?_)
  replace hF:=kf.rely hF h₃
  clear h₃
  refine BehE.mk rfl (.inr ?_)
  intro w₃ s hw
  replace hF:=kf.rely hF s
  clear s
  have z0 : Mt.st 0 0 = .int .u64 0:=by simp [Mt.st]
  rw [z0]
  refine ⟨_,stepG_store_atomic rfl rfl (by k_ne) rfl H.f_storeU64 (x_storeU64_n L) (x_storeU64_b L) (x_storeU64_x L) (x_storeU64_f L) rfl rfl hw.cellSt (hw.thaw 0),rfl,by decide,?_⟩
  replace hF : F (w₃.setCell (stA Wg) (.int .u64 0)) /\ WgLive L.tWg Wg (w₃.setCell (stA Wg) (.int .u64 0)):=⟨kf.wg _ _ _ rfl hF.1,⟨_,_,hw.setSt 0⟩⟩
  clear hw z0
  refine BehE.idles (ph:=.l3 l) id 50 ?_
  walk_nrm
  u_c stepG_region_end kf.rely hF
  u_c stepG_end kf.rely hF
  u_leave0 H.f_uStore kf.rely hF
  u_c stepG_region_end kf.rely hF
  u_c stepG_seq kf.rely hF
  u_c stepG_seq kf.rely hF
  u_reg kf.rely hF
  u_op kf.rely hF
  u_c stepG_region_end kf.rely hF
  u_cond false kf.rely hF
  u_c stepG_skip kf.rely hF
  u_c stepG_block kf.rely hF
  u_c stepG_loop kf.rely hF
  u_c stepG_seq kf.rely hF
  u_c stepG_seq kf.rely hF
  u_reg kf.rely hF
  u_op kf.rely hF
  u_op kf.rely hF
  u_c stepG_region_end kf.rely hF
  u_cond true kf.rely hF
  u_c stepG_skip kf.rely hF
  u_c stepG_seq kf.rely hF
  u_c stepG_block kf.rely hF
  u_reg kf.rely hF
  u_op kf.rely hF
  u_op kf.rely hF
  u_op kf.rely hF
  refine Goes.stop (λ w₂ h₄ => ?_)
  clear h₄ hF
  refine BehE.mk rfl (.inr ⟨mayWake_entry rfl rfl H.f_semrelease (x_semrelease_b L),λ w₄ s hw => ?_⟩)
  clear s
  refine ⟨_,(stepG_semrelease rfl rfl (by k_ne) rfl H.f_semrelease (x_semrelease_n L) (x_semrelease_b L) (x_semrelease_x L) (x_semrelease_f L) (by simp [Act.eval,smA]) hw.cellSm (hw.thaw 1)).trans (by rfl),rfl,by decide,qt + 19,?_⟩
  clear hw
  walk_nrm
  q_c stepG_region_end
  q_c stepG_inBlock
  q_reg
  q_val (.int .u32 1)
  q_val (.int .u32 0)
  q_val (.int .u32 0)
  q_c stepG_region_end
  q_c stepG_inLoop
  q_c stepG_seq
  q_c stepG_seq
  q_reg
  q_val (.int .u32 0)
  q_val (.bool false)
  q_c stepG_region_end
  q_cond false
  q_exit
  q_c stepG_end
  q_enable
  q_leave0 H.f_add
  exact hT
 ·-- (v > 0,NOBODY WAITS)
  replace hw : WgAt L.tWg Wg w₁ (((v : Nat) + 1) * KK + 0) 0:=by simpa using hw
  have z : Mt.st v 0 = .int .u64 ((v : Int) * KK + 0):=by simp [Mt.st]
  rw [z]
  have hv0 : 0 < v:=by omega
  have eS : IntKind.u64.wrap (((v : Nat) + 1) * KK + 0 + 18446744069414584320) = (v : Int) * KK + 0:=by rw [IntKind.wrap_u64]; simp only [KK]; omega
  obtain ⟨S,hS⟩ : ∃ S : Int,S = (v : Int) * KK + 0:=⟨_,rfl⟩
  rw [<- hS] at eS ⊢
  have a1 : S / 4294967296 = (v : Int):=by rw [hS]; simp only [KK]; omega
  have a2 : 0 <= S /\ S < 9223372036854775808:=by rw [hS]; simp only [KK]; omega
  have b1 : bits .and .u64 S 2147483648 = 0:=by rw [hS]; have:=st_flag v 0 (by omega) (by omega); simpa [KK] using this
  have b2 : bits .and .u64 S 2147483647 = 0:=by rw [hS]; have:=st_waiters v 0 (by omega) (by omega); simpa [KK] using this
  clear hS z
  refine ⟨_,(stepG_add_atomic rfl rfl (by k_ne) rfl H.f_addU64 (x_addU64_n L) (x_addU64_b L) (x_addU64_x L) .u64 (x_addU64_f L) rfl rfl hw.cellSt (hw.thaw 0)).trans (by rw [eS]; rfl),rfl,by decide,λ hl => absurd hl.1 (by omega),λ _ => ⟨qt + 89,?_⟩⟩
  clear hw
  walk_nrm
  q_vn (.int .u64 S)
  q_c stepG_region_end
  q_c stepG_ret'
  q_leave1 H.f_uAdd
  q_vn (.int .u64 S)
  q_c stepG_region_end
  q_c stepG_seq
  q_c stepG_seq
  q_reg
  q_vn (.int .u64 S)
  q_vn (.int .u64 0)
  q_vn (.bool false)
  q_vn (.bool false)
  q_skip
  q_skip
  q_vn (.bool false)
  q_c stepG_region_end
  q_cond false
  q_c stepG_skip
  q_c stepG_seq
  q_reg
  q_vn (.int .u64 S)
  q_vn (.int .u64 (v : Int))
  q_vn (.int .i32 (v : Int))
  q_vn (.int .i32 (v : Int))
  q_c stepG_region_end
  q_c stepG_seq
  q_reg
  q_vn (.int .u64 S)
  q_vn (.int .u64 0)
  q_vn (.int .u32 0)
  q_vn (.int .u32 0)
  q_c stepG_region_end
  q_c stepG_seq
  q_c stepG_seq
  q_reg
  q_vn (.bool true)
  q_vn (.int .i64 (-1))
  q_vn (.bool false)
  q_vn (.bool false)
  q_vn (.bool false)
  q_skip
  q_skip
  q_skip
  q_skip
  q_vn (.bool false)
  q_c stepG_region_end
  q_cond false
  q_c stepG_skip
  q_c stepG_seq
  q_c stepG_seq
  q_reg
  q_vn (.int .i32 (v : Int))
  q_vn (.bool false)
  q_c stepG_region_end
  q_cond false
  q_c stepG_skip
  q_c stepG_seq
  q_c stepG_seq
  q_reg
  q_vn (.int .u32 0)
  q_vn (.bool false)
  q_vn (.bool false)
  q_skip
  q_skip
  q_vn (.bool false)
  q_vn (.bool false)
  q_skip
  q_skip
  q_skip
  q_skip
  q_vn (.bool false)
  q_c stepG_region_end
  q_cond false
  q_c stepG_skip
  q_c stepG_seq
  q_c stepG_seq
  q_reg
  q_vn (.int .i32 (v : Int))
  q_vn (.bool true)
  q_vn (.bool true)
  q_skip
  q_skip
  q_vn (.bool true)
  q_c stepG_region_end
  q_cond true
  q_c stepG_ret'
  q_enable
  q_leave0 H.f_add
  exact hT
 ·-- (v > 0,THE STARTER WAITS)
  replace hw : WgAt L.tWg Wg w₁ (((v : Nat) + 1) * KK + 1) 0:=by simpa using hw
  have z : Mt.st v 1 = .int .u64 ((v : Int) * KK + 1):=by simp [Mt.st]
  rw [z]
  have hv0 : 0 < v:=by omega
  have eS : IntKind.u64.wrap (((v : Nat) + 1) * KK + 1 + 18446744069414584320) = (v : Int) * KK + 1:=by rw [IntKind.wrap_u64]; simp only [KK]; omega
  obtain ⟨S,hS⟩ : ∃ S : Int,S = (v : Int) * KK + 1:=⟨_,rfl⟩
  rw [<- hS] at eS ⊢
  have a1 : S / 4294967296 = (v : Int):=by rw [hS]; simp only [KK]; omega
  have a2 : 0 <= S /\ S < 9223372036854775808:=by rw [hS]; simp only [KK]; omega
  have b1 : bits .and .u64 S 2147483648 = 0:=by rw [hS]; have:=st_flag v 1 (by omega) (by omega); simpa [KK] using this
  have b2 : bits .and .u64 S 2147483647 = 1:=by rw [hS]; have:=st_waiters v 1 (by omega) (by omega); simpa [KK] using this
  clear hS z
  refine ⟨_,(stepG_add_atomic rfl rfl (by k_ne) rfl H.f_addU64 (x_addU64_n L) (x_addU64_b L) (x_addU64_x L) .u64 (x_addU64_f L) rfl rfl hw.cellSt (hw.thaw 0)).trans (by rw [eS]; rfl),rfl,by decide,λ hl => absurd hl.1 (by omega),λ _ => ⟨qt + 89,?_⟩⟩
  clear hw
  walk_nrm
  q_vn (.int .u64 S)
  q_c stepG_region_end
  q_c stepG_ret'
  q_leave1 H.f_uAdd
  q_vn (.int .u64 S)
  q_c stepG_region_end
  q_c stepG_seq
  q_c stepG_seq
  q_reg
  q_vn (.int .u64 S)
  q_vn (.int .u64 0)
  q_vn (.bool false)
  q_vn (.bool false)
  q_skip
  q_skip
  q_vn (.bool false)
  q_c stepG_region_end
  q_cond false
  q_c stepG_skip
  q_c stepG_seq
  q_reg
  q_vn (.int .u64 S)
  q_vn (.int .u64 (v : Int))
  q_vn (.int .i32 (v : Int))
  q_vn (.int .i32 (v : Int))
  q_c stepG_region_end
  q_c stepG_seq
  q_reg
  q_vn (.int .u64 S)
  q_vn (.int .u64 1)
  q_vn (.int .u32 1)
  q_vn (.int .u32 1)
  q_c stepG_region_end
  q_c stepG_seq
  q_c stepG_seq
  q_reg
  q_vn (.bool true)
  q_vn (.int .i64 (-1))
  q_vn (.bool false)
  q_vn (.bool false)
  q_vn (.bool false)
  q_skip
  q_skip
  q_skip
  q_skip
  q_vn (.bool false)
  q_c stepG_region_end
  q_cond false
  q_c stepG_skip
  q_c stepG_seq
  q_c stepG_seq
  q_reg
  q_vn (.int .i32 (v : Int))
  q_vn (.bool false)
  q_c stepG_region_end
  q_cond false
  q_c stepG_skip
  q_c stepG_seq
  q_c stepG_seq
  q_reg
  q_vn (.int .u32 1)
  q_vn (.bool true)
  q_vn (.bool true)
  q_vn (.int .i64 (-1))
  q_vn (.bool false)
  q_vn (.bool false)
  q_vn (.bool false)
  q_skip
  q_skip
  q_skip
  q_skip
  q_vn (.bool false)
  q_c stepG_region_end
  q_cond false
  q_c stepG_skip
  q_c stepG_seq
  q_c stepG_seq
  q_reg
  q_vn (.int .i32 (v : Int))
  q_vn (.bool true)
  q_vn (.bool true)
  q_skip
  q_skip
  q_vn (.bool true)
  q_c stepG_region_end
  q_cond true
  q_c stepG_ret'
  q_enable
  q_leave0 H.f_add
  exact hT
set_option maxRecDepth 100000 in
theorem doneW (H : WgLib P L) (hact : A.act l = .done) (kf : KeepF L.tWg Wg τ F) (hdep : ∀ w,F w -> A.dep l w) {c : Frame} {cs : List Frame} {qt : Nat}
  (hcm : c.mode = .returning) (hT : QuitsD P qt 0 (G c cs)) (w : World) (hF : F w /\ WgLive L.tWg Wg w) :
  BehE P L.tWg Wg A Fin false (.usr l) 0 τ (G ((baseD L.done).at ⟨#[.pointer (some ⟨Wg,0,none⟩),undef,undef,undef],[]⟩ [.code (body_done L)]) (c :: cs)) w:=by
 lib_facts
 have hA:=@addNegW _ L _ P Wg A Fin F
 simp only [body_done,body_add,doneFn,addFn,Option.getD_some] at hA ⊢
 refine BehE.goes (ph:=.usr l) trivial 23 ?_
 u_reg kf.rely hF
 u_op kf.rely hF
 u_in kf.rely hF
 refine goes_call rfl rfl (by k_ne) rfl H.f_add (nm_add L) rfl ⟨by u_nil,?_⟩
 walk_nrmf addFn
 refine Goes.stop (λ w₁ h₁ => ?_)
 refine hA H hact kf hdep (qt:=qt + 3) ?_ _ (kf.rely hF h₁)
 q_c stepG_region_end
 q_c stepG_end
 exact QuitsD.leaveD rfl rfl H.f_done rfl hcm hT
end
end Go.Mt
namespace Go.Mt
open Go.Conc Go.RowKit Go.Conc.Lib Go.ConcR.Gen
open Go.ConcN.Gen (WgLive.cell0 WgLive.cell1 AnchWN)
open Go.ConcN (st_flag st_waiters)
open Go.ConcR (KK wgBlock WgAt stA smA rd wr mk Payload DC0)
variable [Payload] {L : WgLink}
section
variable {L₀ : Type} {P : Program} {Wg : Nat} {A : Proto L₀} {Fin : Goroutine -> World -> Prop} {F : World -> Prop}
 {b₀ : Frame} {a₀ : Go.Act} {ops₀ : Array Oper} {i₀ : Nat} {rest₀ : List Nat} {k₀ : List Item} {cs : List Frame} {τ : Terr} {l nx : L₀}
def AtX (W w : World) : Prop:=∃ d,w = W.at d
theorem atX_rely {W w w₁ : World} (h : AtX W w) (r : AtRel w w₁) : AtX W w₁:=by
 obtain ⟨d,rfl⟩:=h
 obtain ⟨d',rfl⟩:=r
 exact ⟨d',rfl⟩
def Deps (A : Proto L₀) (w : World) : Prop:=∃ q ch,A.Inv q ch /\ q 0 = .waits /\ (∀ i l,q i ≠ .run l) /\ ∀ i l,q i = .over l -> A.dep l w
set_option maxRecDepth 100000 in
set_option maxHeartbeats 8000000 in
theorem waitRoundW (H : WgLib P L) (kf : KeepF L.tWg Wg τ F) (hFin : ∀ (n : Nat) g w,Goes P true AtRel DC0 Fin n g w -> Fin g w)
  (hT : ∀ w,F w -> WgLive L.tWg Wg w -> Deps A w -> ∀ d,Fin (G (b₀.at (a₀.put ((ops₀[i₀]?).bind (·.dst)) (.tuple #[])) (.inRegion ops₀ rest₀ :: k₀)) cs) (w.at d))
  {ok : Nat -> Prop} {ph : Ph L₀} (hl : ph.live)
  (hph : ∀ g w,g.status = .running -> (∀ w₁,Suf L.tWg Wg τ w w₁ -> ∀ v : Nat,ok v -> v < 2147483648 -> WgAt L.tWg Wg w₁ (v * KK) 0 -> ∃ g',stepG P true g w₁ = .go g' w₁ #[rd (stA Wg)] /\ g'.status = .running /\
   (v = 0 -> BehE P L.tWg Wg A Fin true .w5 1 τ g' w₁) /\ (v ≠ 0 -> BehE P L.tWg Wg A Fin true (.w2 v) 1 τ g' w₁)) -> BehE P L.tWg Wg A Fin true ph 1 τ g w)
  (hC : ∀ v,ok v -> ∀ g w,AnchWN L F Wg (b₀.at a₀ (.inRegion ops₀ (i₀ :: rest₀) :: k₀)) cs g w -> BehE P L.tWg Wg A Fin true (.w1 v) 1 τ g w)
  (g : Goroutine) (w : World) (h : AnchWN L F Wg (b₀.at a₀ (.inRegion ops₀ (i₀ :: rest₀) :: k₀)) cs g w) : BehE P L.tWg Wg A Fin true ph 1 τ g w:=by
 lib_facts
 obtain ⟨T,rfl,hT84,t0,hF⟩:=h
 obtain ⟨v0,v1,v2,v3,v4,v5,v6,v7,v8,v9,v10,v11,v12,v13,v14,v15,v16,v17,v18,v19,v20,v21,v22,v23,v24,v25,v26,v27,v28,v29,v30,v31,v32,v33,v34,v35,v36,v37,v38,v39,v40,v41,v42,v43,v44,v45,v46,v47,v48,v49,v50,v51,v52,v53,v54,v55,v56,v57,v58,v59,v60,v61,v62,v63,v64,v65,v66,v67,v68,v69,v70,v71,v72,v73,v74,v75,v76,v77,v78,v79,v80,v81,v82,v83,rfl⟩:=array84 T hT84
 simp only [List.getElem?_toArray,List.getElem?_cons_zero,Option.some.injEq] at t0
 subst t0
 refine BehE.goes hl 30 ?_
 simp only [L7,body_wait,waitFn,Option.getD_some]
 u_c stepG_block kf.rely hF
 u_c stepG_seq kf.rely hF
 u_reg kf.rely hF
 u_op kf.rely hF
 u_op kf.rely hF
 u_op kf.rely hF
 u_call H.f_uLoad (nm_uLoad L) uLoadFn kf.rely hF
 u_c stepG_seq kf.rely hF
 u_reg kf.rely hF
 u_op kf.rely hF
 u_c stepG_region_end kf.rely hF
 u_c stepG_seq kf.rely hF
 u_reg kf.rely hF
 u_op kf.rely hF
 u_op kf.rely hF
 u_op kf.rely hF
 refine Goes.stop (λ w₀ h₁ => ?_)
 replace hF:=kf.rely hF h₁
 clear h₁
 refine hph _ _ rfl ?_
 intro w₁ s v hok hv hw
 replace hF:=kf.rely hF s
 clear s
 rcases Nat.eq_zero_or_pos v with rfl | hvp
 ·-- THE LOAD READS 0: THE JOIN IS SEEN
  replace hw : WgAt L.tWg Wg w₁ 0 0:=by simpa using hw
  refine ⟨_,stepG_load_atomic (v:=0) rfl rfl (by k_ne) rfl H.f_loadU64 (x_loadU64_n L) (x_loadU64_b L) (x_loadU64_x L) .u64 (x_loadU64_f L) rfl hw.cellSt,rfl,λ _ => ?_,λ h => absurd rfl h⟩
  clear hw
  refine BehE.goes (ph:=.w5) trivial 60 ?_
  walk_nrm
  u_op kf.rely hF
  u_c stepG_region_end kf.rely hF
  u_c stepG_ret' kf.rely hF
  u_leave1 H.f_uLoad kf.rely hF
  u_op kf.rely hF
  u_c stepG_region_end kf.rely hF
  u_c stepG_seq kf.rely hF
  u_reg kf.rely hF
  u_op kf.rely hF
  u_op kf.rely hF
  u_op kf.rely hF
  u_op kf.rely hF
  u_c stepG_region_end kf.rely hF
  u_c stepG_seq kf.rely hF
  u_reg kf.rely hF
  u_op kf.rely hF
  u_op kf.rely hF
  u_op kf.rely hF
  u_op kf.rely hF
  u_c stepG_region_end kf.rely hF
  u_c stepG_seq kf.rely hF
  u_c stepG_seq kf.rely hF
  u_reg kf.rely hF
  u_op kf.rely hF
  u_op kf.rely hF
  u_c stepG_region_end kf.rely hF
  u_cond true kf.rely hF
  u_c stepG_seq kf.rely hF
  u_cond true kf.rely hF
  u_c stepG_seq kf.rely hF
  u_reg kf.rely hF
  refine Goes.stop (λ w₅ h₅ => ?_)
  replace hF:=kf.rely hF h₅
  clear h₅
  refine BehE.mark (ph:=.w5) trivial rfl (λ w₂ s => stepG_mark0 .enable (by simp) rfl rfl (by k_ne) rfl H.f_enable (x_enable_n L) (x_enable_b L) (x_enable_x L) (x_enable_f L)) trivial (λ w₂ s => ?_)
  replace hF:=kf.rely hF s
  clear s
  rw [show deafBehind 1 #[Go.ConcR.mk .enable] = 0 from rfl]
  refine BehE.goes (ph:=.w5) trivial 30 ?_
  walk_nrm
  u_c stepG_region_end kf.rely hF
  u_reg kf.rely hF
  u_op kf.rely hF
  u_conv H.underlying_tWgP H.room_tWg (WgLive.cell0 hF.2).choose_spec kf.rely hF
  refine Goes.stop (λ w₆ h₆ => ?_)
  replace hF:=kf.rely hF h₆
  clear h₆
  refine BehE.mk rfl (.inr ⟨rfl,λ w₇ s hD => ?_⟩)
  replace hF:=kf.rely hF s
  clear s
  have hX : AtX w₇ w₇:=⟨w₇.drawn,rfl⟩
  refine ⟨_,stepG_markAt .acquire (by simp) rfl rfl (by k_ne) rfl H.f_acquire (x_acquire_n L) (x_acquire_b L) (x_acquire_x L) (x_acquire_f L) (by simp [Act.eval,stA]),rfl,?_⟩
  refine hFin 30 _ _ ?_
  walk_nrm
  u_c stepG_region_end atX_rely hX
  u_c stepG_seq atX_rely hX
  u_c stepG_seq atX_rely hX
  u_reg atX_rely hX
  u_op atX_rely hX
  u_op atX_rely hX
  u_op atX_rely hX
  u_op atX_rely hX
  u_op atX_rely hX
  u_op atX_rely hX
  u_op atX_rely hX
  u_op atX_rely hX
  u_skip atX_rely hX
  u_skip atX_rely hX
  u_op atX_rely hX
  u_c stepG_region_end atX_rely hX
  u_cond false atX_rely hX
  u_c stepG_skip atX_rely hX
  u_c stepG_ret' atX_rely hX
  u_leave0 H.f_wait atX_rely hX
  exact Goes.stop (λ w₈ h => by obtain ⟨d₁,rfl⟩:=atX_rely hX h; exact hT _ hF.1 hF.2 hD d₁)
 ·-- THE LOAD READS v * 2^32,v > 0
  obtain ⟨S,hS⟩ : ∃ S : Int,(v : Int) * KK = S:=⟨_,rfl⟩
  have a1 : S / 4294967296 = (v : Int):=by rw [<- hS]; simp only [KK]; omega
  have b1 : bits .and .u64 S 2147483648 = 0:=by rw [<- hS]; have:=st_flag v 0 (by omega) (by omega); simpa [KK] using this
  have b2 : bits .and .u64 S 2147483647 = 0:=by rw [<- hS]; have:=st_waiters v 0 (by omega) (by omega); simpa [KK] using this
  have c1 : IntKind.i32.wrap (v : Int) = (v : Int):=by rw [IntKind.wrap_i32]; omega
  have w1 : IntKind.u64.wrap (S + 1) = S + 1:=by rw [IntKind.wrap_u64,<- hS]; simp only [KK]; omega
  have q3 : decide ((v : Int) < 0) = false:=decide_eq_false (by omega)
  have q4 : decide (0 < (v : Int)) = true:=decide_eq_true (by omega)
  have q5 : ((v : Int) == 0) = false:=by simp; omega
  have q6 : decide ((v : Int) = 0) = false:=decide_eq_false (by omega)
  rw [hS] at hw
  refine ⟨_,stepG_load_atomic (v:=S) rfl rfl (by k_ne) rfl H.f_loadU64 (x_loadU64_n L) (x_loadU64_b L) (x_loadU64_x L) .u64 (x_loadU64_f L) rfl hw.cellSt,rfl,λ h0 => absurd h0 (by omega),λ _ => ?_⟩
  clear hw
  refine BehE.goes (ph:=.w2 v) trivial 60 ?_
  walk_nrm
  u_op kf.rely hF
  u_c stepG_region_end kf.rely hF
  u_c stepG_ret' kf.rely hF
  u_leave1 H.f_uLoad kf.rely hF
  u_op kf.rely hF
  u_c stepG_region_end kf.rely hF
  u_c stepG_seq kf.rely hF
  u_reg kf.rely hF
  u_op kf.rely hF
  u_op kf.rely hF
  u_op kf.rely hF
  u_op kf.rely hF
  u_c stepG_region_end kf.rely hF
  u_c stepG_seq kf.rely hF
  u_reg kf.rely hF
  u_op kf.rely hF
  u_op kf.rely hF
  u_op kf.rely hF
  u_op kf.rely hF
  u_c stepG_region_end kf.rely hF
  u_c stepG_seq kf.rely hF
  u_c stepG_seq kf.rely hF
  u_reg kf.rely hF
  u_op kf.rely hF
  u_op kf.rely hF
  u_c stepG_region_end kf.rely hF
  u_cnd false kf.rely hF
  u_c stepG_skip kf.rely hF
  u_c stepG_seq kf.rely hF
  u_reg kf.rely hF
  u_op kf.rely hF
  u_op kf.rely hF
  u_op kf.rely hF
  u_op kf.rely hF
  u_op kf.rely hF
  u_op kf.rely hF
  u_call H.f_uCas (nm_uCas L) uCasFn kf.rely hF
  u_c stepG_seq kf.rely hF
  u_reg kf.rely hF
  u_op kf.rely hF
  u_c stepG_region_end kf.rely hF
  u_c stepG_seq kf.rely hF
  u_reg kf.rely hF
  u_op kf.rely hF
  u_op kf.rely hF
  u_op kf.rely hF
  u_op kf.rely hF
  u_op kf.rely hF
  refine Goes.stop (λ w₀ h₂ => ?_)
  replace hF:=kf.rely hF h₂
  clear h₂
  refine BehE.mk rfl (.inr ?_)
  intro w₂ s v' hv' hw
  replace hF:=kf.rely hF s
  clear s
  refine ⟨λ e => ?_,λ e => ?_⟩
  ·-- THE CompareAndSwap HITS: REGISTERED
   subst e
   have z : Mt.st v' 1 = .int .u64 (S + 1):=by simp [Mt.st,hS]
   rw [hS] at hw
   rw [z]
   refine ⟨_,(stepG_cas_hit (v:=S) (n:=S + 1) rfl rfl (by k_ne) rfl H.f_casU64 (x_casU64_n L) (x_casU64_b L) (x_casU64_x L) .u64 (x_casU64_f L) rfl rfl rfl hw.cellSt (hw.thaw 0)).trans (by rfl),rfl,?_⟩
   refine BehE.goes (ph:=.w3) trivial 70 ?_
   replace hF : F (w₂.setCell (stA Wg) (.int .u64 (S + 1))) /\ WgLive L.tWg Wg (w₂.setCell (stA Wg) (.int .u64 (S + 1))):=⟨kf.wg _ _ _ rfl hF.1,⟨_,_,hw.setSt _⟩⟩
   clear hw
   walk_nrm
   u_op kf.rely hF
   u_c stepG_region_end kf.rely hF
   u_c stepG_ret' kf.rely hF
   u_leave1 H.f_uCas kf.rely hF
   u_c stepG_region_end kf.rely hF
   u_cond true kf.rely hF
   u_c stepG_seq kf.rely hF
   u_c stepG_seq kf.rely hF
   u_reg kf.rely hF
   u_op kf.rely hF
   u_op kf.rely hF
   u_op kf.rely hF
   u_op kf.rely hF
   u_c stepG_region_end kf.rely hF
   u_cond true kf.rely hF
   u_reg kf.rely hF
   u_op kf.rely hF
   u_op kf.rely hF
   u_op kf.rely hF
   u_conv H.underlying_tPU32 H.room_tU32 (WgLive.cell1 hF.2).choose_spec kf.rely hF
   refine Goes.stop (λ w₉ h₉ => ?_)
   replace hF:=kf.rely hF h₉
   clear h₉
   refine BehE.mark (ph:=.w3) trivial rfl (λ w₂ s => stepG_markAt .write (by simp) rfl rfl (by k_ne) rfl H.f_raceWrite (x_raceWrite_n L) (x_raceWrite_b L) (x_raceWrite_x L) (x_raceWrite_f L) (ad:=⟨Wg,1,none⟩) (by simp [Go.Act.eval])) ⟨rfl,rfl⟩ (λ w₂ s => ?_)
   replace hF:=kf.rely hF s
   clear s
   rw [show deafBehind 1 #[Go.ConcR.mk (.write ⟨Wg,1,none⟩)] = 1 from rfl]
   walk_nrm
   refine BehE.goes (ph:=.w3) trivial 70 ?_
   u_c stepG_region_end kf.rely hF
   u_c stepG_seq kf.rely hF
   u_reg kf.rely hF
   u_op kf.rely hF
   u_c stepG_region_end kf.rely hF
   u_c stepG_seq kf.rely hF
   u_c stepG_seq kf.rely hF
   u_reg kf.rely hF
   u_op kf.rely hF
   u_op kf.rely hF
   u_op kf.rely hF
   u_op kf.rely hF
   u_skip kf.rely hF
   u_op kf.rely hF
   u_c stepG_region_end kf.rely hF
   u_cond false kf.rely hF
   u_c stepG_skip kf.rely hF
   u_c stepG_seq kf.rely hF
   u_reg kf.rely hF
   u_op kf.rely hF
   u_op kf.rely hF
   u_op kf.rely hF
   u_op kf.rely hF
   refine Goes.stop (λ w₀ h₃ => ?_)
   replace hF:=kf.rely hF h₃
   clear h₃
   refine BehE.mk rfl (.inr ⟨rfl,λ w₃ s => ?_⟩)
   replace hF:=kf.rely hF s
   clear s
   refine ⟨λ ⟨st,hw⟩ => stepG_semacquire_wait rfl rfl rfl H.f_semacquire (x_semacquire_n L) (x_semacquire_b L) (x_semacquire_x L) (x_semacquire_f L) (by simp [Act.eval,smA]) hw.cellSm,λ hf => ?_⟩
   refine ⟨_,(stepG_semacquire (n:=1) rfl rfl (by k_ne) rfl H.f_semacquire (x_semacquire_n L) (x_semacquire_b L) (x_semacquire_x L) (x_semacquire_f L) (by simp [Act.eval,smA]) hf.cellSm (by k_ne) (hf.thaw 1)).trans (by rfl),rfl,?_⟩
   refine BehE.goes (ph:=.w4) trivial 60 ?_
   replace hF : F (w₃.setCell (smA Wg) (.int .u32 0)) /\ WgLive L.tWg Wg (w₃.setCell (smA Wg) (.int .u32 0)):=⟨kf.wg _ _ _ rfl hF.1,⟨_,_,hf.setSm 0⟩⟩
   clear hf
   walk_nrm
   u_c stepG_region_end kf.rely hF
   u_c stepG_seq kf.rely hF
   u_reg kf.rely hF
   u_op kf.rely hF
   u_op kf.rely hF
   u_op kf.rely hF
   u_call H.f_uLoad (nm_uLoad L) uLoadFn kf.rely hF
   u_c stepG_seq kf.rely hF
   u_reg kf.rely hF
   u_op kf.rely hF
   u_c stepG_region_end kf.rely hF
   u_c stepG_seq kf.rely hF
   u_reg kf.rely hF
   u_op kf.rely hF
   u_op kf.rely hF
   u_op kf.rely hF
   refine Goes.stop (λ w₀ h₄ => ?_)
   replace hF:=kf.rely hF h₄
   clear h₄
   refine BehE.mk rfl (.inr λ w₄ s hw => ?_)
   replace hF:=kf.rely hF s
   clear s
   refine ⟨_,stepG_load_atomic (v:=0) rfl rfl (by k_ne) rfl H.f_loadU64 (x_loadU64_n L) (x_loadU64_b L) (x_loadU64_x L) .u64 (x_loadU64_f L) rfl hw.cellSt,rfl,?_⟩
   clear hw
   refine BehE.goes (ph:=.w5) trivial 60 ?_
   walk_nrm
   u_op kf.rely hF
   u_c stepG_region_end kf.rely hF
   u_c stepG_ret' kf.rely hF
   u_leave1 H.f_uLoad kf.rely hF
   u_op kf.rely hF
   u_op kf.rely hF
   u_c stepG_region_end kf.rely hF
   u_c stepG_seq kf.rely hF
   u_cond true kf.rely hF
   u_c stepG_seq kf.rely hF
   u_reg kf.rely hF
   refine Goes.stop (λ w₅ h₅ => ?_)
   replace hF:=kf.rely hF h₅
   clear h₅
   refine BehE.mark (ph:=.w5) trivial rfl (λ w₂ s => stepG_mark0 .enable (by simp) rfl rfl (by k_ne) rfl H.f_enable (x_enable_n L) (x_enable_b L) (x_enable_x L) (x_enable_f L)) trivial (λ w₂ s => ?_)
   replace hF:=kf.rely hF s
   clear s
   rw [show deafBehind 1 #[Go.ConcR.mk .enable] = 0 from rfl]
   refine BehE.goes (ph:=.w5) trivial 30 ?_
   walk_nrm
   u_c stepG_region_end kf.rely hF
   u_reg kf.rely hF
   u_op kf.rely hF
   u_conv H.underlying_tWgP H.room_tWg (WgLive.cell0 hF.2).choose_spec kf.rely hF
   refine Goes.stop (λ w₆ h₆ => ?_)
   replace hF:=kf.rely hF h₆
   clear h₆
   refine BehE.mk rfl (.inr ⟨rfl,λ w₇ s hD => ?_⟩)
   replace hF:=kf.rely hF s
   clear s
   have hX : AtX w₇ w₇:=⟨w₇.drawn,rfl⟩
   refine ⟨_,stepG_markAt .acquire (by simp) rfl rfl (by k_ne) rfl H.f_acquire (x_acquire_n L) (x_acquire_b L) (x_acquire_x L) (x_acquire_f L) (by simp [Act.eval,stA]),rfl,?_⟩
   refine hFin 30 _ _ ?_
   walk_nrm
   u_c stepG_region_end atX_rely hX
   u_c stepG_seq atX_rely hX
   u_c stepG_seq atX_rely hX
   u_reg atX_rely hX
   u_op atX_rely hX
   u_c stepG_region_end atX_rely hX
   u_cond false atX_rely hX
   u_c stepG_skip atX_rely hX
   u_c stepG_ret' atX_rely hX
   u_leave0 H.f_wait atX_rely hX
   exact Goes.stop (λ w₈ h => by obtain ⟨d₁,rfl⟩:=atX_rely hX h; exact hT _ hF.1 hF.2 hD d₁)
  ·-- IT MISSES: BACK TO THE LOOP's HEAD
   refine ⟨_,stepG_cas_miss (v:=(v' : Int) * KK) (old:=S) (n:=S + 1) rfl rfl (by k_ne) rfl H.f_casU64 (x_casU64_n L) (x_casU64_b L) (x_casU64_x L) .u64 (x_casU64_f L) rfl rfl rfl hw.cellSt (hw.thaw 0) (by rw [<- hS]; simp only [KK]; omega),rfl,?_⟩
   clear hw
   refine BehE.goes (ph:=.w1 v) trivial 20 ?_
   walk_nrm
   u_op kf.rely hF
   u_c stepG_region_end kf.rely hF
   u_c stepG_ret' kf.rely hF
   u_leave1 H.f_uCas kf.rely hF
   u_c stepG_region_end kf.rely hF
   u_cond false kf.rely hF
   u_c stepG_skip kf.rely hF
   u_c stepG_inBlock kf.rely hF
   u_c stepG_inLoop kf.rely hF
   exact Goes.stop (λ w₃ h₃ => hC v hok _ _ ⟨_,rfl,by simp,by simp,kf.rely hF h₃⟩)
theorem waitHeadW (H : WgLib P L) (kf : KeepF L.tWg Wg τ F) (hFin : ∀ (n : Nat) g w,Goes P true AtRel DC0 Fin n g w -> Fin g w)
  (hT : ∀ w,F w -> WgLive L.tWg Wg w -> Deps A w -> ∀ d,Fin (G (b₀.at (a₀.put ((ops₀[i₀]?).bind (·.dst)) (.tuple #[])) (.inRegion ops₀ rest₀ :: k₀)) cs) (w.at d)) :
  ∀ b g w,AnchWN L F Wg (b₀.at a₀ (.inRegion ops₀ (i₀ :: rest₀) :: k₀)) cs g w -> BehE P L.tWg Wg A Fin true (.w1 b) 1 τ g w:=by
 intro b
 induction b using Nat.strongRecOn with
 | ind b ih => exact waitRoundW H kf hFin hT (ok:=λ v => v < b) trivial (λ g w hr h => BehE.mk hr (.inr h)) ih
set_option maxRecDepth 100000 in
theorem waitW (H : WgLib P L) (hact : A.act l = .wait) (kf : KeepF L.tWg Wg τ F) (hFin : ∀ (n : Nat) g w,Goes P true AtRel DC0 Fin n g w -> Fin g w)
  (hT : ∀ w,F w -> WgLive L.tWg Wg w -> Deps A w -> ∀ d,Fin (G (b₀.at (a₀.put ((ops₀[i₀]?).bind (·.dst)) (.tuple #[])) (.inRegion ops₀ rest₀ :: k₀)) cs) (w.at d))
  (w : World) (hF : F w /\ WgLive L.tWg Wg w) : BehE P L.tWg Wg A Fin true (.usr l) 0 τ (G ((base L.wait).at ⟨#[.pointer (some ⟨Wg,0,none⟩),undef,undef,undef,undef,undef,undef,undef,undef,undef,undef,undef,undef,undef,undef,undef,undef,undef,undef,undef,undef,undef,undef,undef,undef,undef,undef,undef,undef,undef,undef,undef,undef,undef,undef,undef,undef,undef,undef,undef,undef,undef,undef,undef,undef,undef,undef,undef,undef,undef,undef,undef,undef,undef,undef,undef,undef,undef,undef,undef,undef,undef,undef,undef,undef,undef,undef,undef,undef,undef,undef,undef,undef,undef,undef,undef,undef,undef,undef,undef,undef,undef,undef,undef],[]⟩ [.code (body_wait L)]) (b₀.at a₀ (.inRegion ops₀ (i₀ :: rest₀) :: k₀) :: cs)) w:=by
 have hst : ∀ g w,AnchWN L F Wg (b₀.at a₀ (.inRegion ops₀ (i₀ :: rest₀) :: k₀)) cs g w -> BehE P L.tWg Wg A Fin true (.usr l) 1 τ g w:=λ g w h => by
  refine waitRoundW H kf hFin hT (ok:=λ _ => True) (ph:=.usr l) trivial (λ g w hr h => BehE.usr hr ?_) (λ v _ => waitHeadW H kf hFin hT v) g w h
  unfold AtUsr
  rw [hact]
  exact λ w₁ s v hv hw => h w₁ s v trivial hv hw
 lib_facts
 simp only [body_wait,waitFn,Option.getD_some]
 refine BehE.goes (ph:=.usr l) trivial 3 ?_
 u_c stepG_seq kf.rely hF
 u_cond true kf.rely hF
 u_reg kf.rely hF
 refine Goes.stop (λ w₁ h₁ => ?_)
 replace hF:=kf.rely hF h₁
 clear h₁
 refine BehE.mark (ph:=.usr l) trivial rfl (λ w₂ s => stepG_mark0 .disable (by simp) rfl rfl (by k_ne) rfl H.f_disable (x_disable_n L) (x_disable_b L) (x_disable_x L) (x_disable_f L)) trivial (λ w₂ s => ?_)
 replace hF:=kf.rely hF s
 clear s
 rw [show deafBehind 0 #[Go.ConcR.mk .disable] = 1 from rfl]
 walk_nrm
 refine BehE.goes (ph:=.usr l) trivial 3 ?_
 u_c stepG_region_end kf.rely hF
 u_c stepG_block kf.rely hF
 u_c stepG_loop kf.rely hF
 exact Goes.stop (λ w₃ h₂ => hst _ _ ⟨_,rfl,by simp,by simp,kf.rely hF h₂⟩)
end
end Go.Mt
namespace Go.Mt
open Go.Conc Go.Tt
def valOk : Nat -> Value -> Bool
 | 0,_ => false
 | n + 1,v => match v with
  | .bool _ | .int _ _ | .string _ | .nilFunc | .nilIface | .pointer none | .slice none _ _ | .map none | .chan none => true
  | .agg xs | .tuple xs => xs.all (valOk n)
  | _ => false
theorem valOk_vr {S : FuncId -> Prop} {K R : Pr} : ∀ (n : Nat) (v : Value),valOk n v = true -> VR S K R v v:=by
 intro n
 induction n with
 | zero => intro v h; cases h
 | succ n ih =>
  intro v h
  have arr : ∀ xs : Array Value,xs.all (valOk n) = true -> ArR S K R xs xs:=λ xs hx => ⟨rfl,λ i a b h1 h2 => by
   rw [h1] at h2
   obtain rfl:=Option.some.inj h2
   rw [Array.all_eq_true_iff_forall_mem] at hx
   exact ih a (hx a (Array.mem_of_getElem? h1))⟩
  cases v with
  | bool b => exact .bool b
  | int k m => exact .int k m
  | string s => exact .string s
  | nilFunc => exact .nilFunc
  | nilIface => exact .nilIface
  | pointer a => cases a with | none => exact .pointer .none | some a => simp [valOk] at h
  | slice a m c => cases a with | none => exact .slice .none | some a => simp [valOk] at h
  | map a => cases a with | none => exact .map .none | some a => simp [valOk] at h
  | chan a => cases a with | none => exact .chan .none | some a => simp [valOk] at h
  | agg xs => exact .agg rfl (arr xs (by simpa [valOk] using h)).2
  | tuple xs => exact .tuple rfl (arr xs (by simpa [valOk] using h)).2
  | _ => simp [valOk] at h
def Zok (v : Value) : Prop:=∀ (S : FuncId -> Prop) (K R : Pr),VR S K R v v
theorem Zok.cells {z : Value} (h : Zok z) : ∀ x ∈ z.cells,Zok x:=λ x hx S K R => by
 obtain ⟨i,hi,rfl⟩:=Array.mem_iff_getElem.1 hx
 exact (h S K R).cells.2 i _ _ (Array.getElem?_eq_getElem hi) (Array.getElem?_eq_getElem hi)
theorem Zok.agg {xs : Array Value} (h : ∀ x ∈ xs,Zok x) : Zok (.agg xs):=λ S K R => .agg rfl λ i v v' h1 h2 => by
 rw [h1] at h2
 obtain rfl:=Option.some.inj h2
 exact h v (Array.mem_of_getElem? h1) S K R
def ZInfo (info : TypeId -> Option TypeInfo) : Prop:=∀ t i z,info t = some i -> i.zero = some z -> Zok z
theorem forIn_inv {α β : Type} {P : β -> Prop} {f : α -> β -> Option (ForInStep β)} (hf : ∀ a b r,P b -> f a b = some r -> P (match r with | .yield b => b | .done b => b)) : ∀ (l : List α) (b b' : β),P b -> forIn l b f = some b' -> P b':=by
 intro l
 induction l with
 | nil => intro b b' hb h; simp only [List.forIn_nil,pure,Option.some.injEq] at h; exact h ▸ hb
 | cons a l ih =>
  intro b b' hb h
  simp only [List.forIn_cons,bind,Option.bind_eq_some_iff] at h
  obtain ⟨r,h1,h2⟩:=h
  have:=hf a b r hb h1
  cases r with
  | yield c => exact ih c b' this h2
  | done c => simp only [pure,Option.some.injEq] at h2; exact h2 ▸ this
theorem zok_struct {info : TypeId -> Option TypeInfo} (hI : ZInfo info) {fs : Array Field} {i : TypeInfo} {z : Value} (h : Made.reckonStruct info fs = some i) (hz : i.zero = some z) : Zok z:=by
 unfold Made.reckonStruct at h
 simp only [bind,pure,Option.bind_eq_some_iff] at h
 obtain ⟨a,h1,h2⟩:=h
 rw [<- Array.forIn_toList] at h1
 have key : ∀ xs,a.2.2.2.2.2.2.2.1 = some xs -> ∀ x ∈ xs,Zok x:=by
  refine forIn_inv (P:=λ s => ∀ xs,s.2.2.2.2.2.2.2.1 = some xs -> ∀ x ∈ xs,Zok x) (λ f s r hP h => ?_) _ _ _ (λ xs hx => by simp only [Option.some.injEq] at hx; subst hx; simp) h1
  simp only [Option.bind_eq_some_iff] at h
  obtain ⟨j,hj,h⟩:=h
  have key : ∀ xs,(s.2.2.2.2.2.2.2.1.bind λ a => j.zero.bind λ b => some (a ++ b.cells)) = some xs -> ∀ x ∈ xs,Zok x:=by
   intro xs hx
   simp only [Option.bind_eq_some_iff,Option.some.injEq] at hx
   obtain ⟨u,h3,v,h4,rfl⟩:=hx
   intro x hm
   rcases Array.mem_append.1 hm with hm | hm
   ·exact hP u h3 x hm
   ·exact (hI _ j v hj h4).cells x hm
  repeat' (first | split at h | (simp only [Option.bind_eq_some_iff] at h; obtain ⟨_,h0,h⟩:=h))
  all_goals first
   | (cases h0; done)
   | (simp only [Option.some.injEq] at h; subst h; exact key)
   | (simp only [Option.some.injEq] at h; subst h; intro xs hx; cases hx)
 split at h2 <;> (simp only [Option.some.injEq] at h2; subst h2; simp only at hz; obtain ⟨xs,h3,rfl⟩:=Option.map_eq_some_iff.1 hz; exact Zok.agg (key xs h3))
theorem zok_reckon {info : TypeId -> Option TypeInfo} (hI : ZInfo info) {d : TypeDesc} {i : TypeInfo} {z : Value} (h : Made.reckon info d = some i) (hz : i.zero = some z) : Zok z:=by
 have hw : ∀ (d : TypeDesc) (s : String) (v : Value) (b : Bool) (n : Nat),Zok v -> ∀ z,(Made.word d s v b n).zero = some z -> Zok z:=λ d s v b n hv z hz => by
  simp only [Made.word,Option.some.injEq] at hz
  exact hz ▸ hv
 have p0 : Zok (.pointer none):=λ _ _ _ => .pointer .none
 have s0 : Zok (.slice none 0 0):=λ _ _ _ => .slice .none
 have m0 : Zok (.map none):=λ _ _ _ => .map .none
 have c0 : Zok (.chan none):=λ _ _ _ => .chan .none
 have f0 : Zok .nilFunc:=λ _ _ _ => .nilFunc
 unfold Made.reckon at h
 cases d with
 | pointer e =>
  simp only [bind,pure,Option.bind_eq_some_iff] at h
  obtain ⟨j,_,h⟩:=h
  split at h
  ·cases h
  ·split at h
   ·cases h
   ·simp only [Option.bind_eq_some_iff,Option.some.injEq] at h
    obtain ⟨_,_,rfl⟩:=h
    exact hw _ _ _ _ _ p0 z hz
  ·simp only [Option.bind_eq_some_iff,Option.some.injEq] at h
   obtain ⟨_,_,rfl⟩:=h
   exact hw _ _ _ _ _ p0 z hz
 | slice e =>
  simp only [bind,pure,Option.bind_eq_some_iff,Option.some.injEq] at h
  obtain ⟨_,_,_,_,rfl⟩:=h
  exact hw _ _ _ _ _ s0 z hz
 | map k e =>
  simp only [bind,pure,Option.bind_eq_some_iff,Option.some.injEq] at h
  obtain ⟨_,_,_,_,_,_,_,_,rfl⟩:=h
  exact hw _ _ _ _ _ m0 z hz
 | chan dir e =>
  simp only [bind,pure,Option.bind_eq_some_iff,Option.some.injEq] at h
  obtain ⟨_,_,_,_,rfl⟩:=h
  exact hw _ _ _ _ _ c0 z hz
 | func ps rs v =>
  simp only [bind,pure,Option.bind_eq_some_iff,Option.some.injEq] at h
  obtain ⟨_,_,rfl⟩:=h
  exact hw _ _ _ _ _ f0 z hz
 | array n e =>
  simp only [bind,pure,Option.bind_eq_some_iff,Option.some.injEq] at h
  obtain ⟨j,hj,_,_,rfl⟩:=h
  simp only at hz
  split at hz
  ·cases hz
  ·split at hz
   ·simp only [Option.some.injEq] at hz; subst hz; exact Zok.agg (by simp)
   ·obtain ⟨u,hu,rfl⟩:=Option.map_eq_some_iff.1 hz
    refine Zok.agg λ x hx => ?_
    simp only [Array.mem_flatten,Array.mem_replicate] at hx
    obtain ⟨xs,⟨_,rfl⟩,hx⟩:=hx
    exact (hI _ j u hj hu).cells x hx
 | struct fs => exact zok_struct hI h hz
 | _ => cases h
def zerosOk (p : Program) : Bool:=(List.range p.types.size).all λ t => match p.info? t with | some i => (match i.zero with | some z => valOk 12 z | none => true) | none => true
def resOk : List ResultVar -> Bool
 | [] => true
 | [_] => true
 | [_,_] => true
 | [_,_,_] => true
 | [_,_,_,_] => true
 | _ => false
theorem resOk_plain {l : List ResultVar} (h : resOk l = true) : plainRes l:=by
 unfold resOk at h
 split at h
 ·exact .inl rfl
 ·exact .inr (.inl ⟨_,rfl⟩)
 ·exact .inr (.inr (.inl ⟨_,_,rfl⟩))
 ·exact .inr (.inr (.inr (.inl ⟨_,_,_,rfl⟩)))
 ·exact .inr (.inr (.inr (.inr ⟨_,_,_,_,rfl⟩)))
 ·cases h
def fnFit (p : Program) (fs gs : FuncId -> Bool) (f : FuncId) : Bool:=
 match p.funcs[f]? with
 | some fn => !(fn.name == "runtime.NumGoroutine") && resOk fn.results.toList && (match fn.body with | some c => fitCode p ⟨fs,gs,false⟩ c | none => false)
 | none => false
theorem fnFit_ok {p : Program} {fs gs : FuncId -> Bool} {f : FuncId} (h : fnFit p fs gs f = true) : ∃ fn c,p.funcs[f]? = some fn /\ (fn.name == "runtime.NumGoroutine") = false /\ fn.body = some c /\ fitCode p ⟨fs,gs,false⟩ c = true /\ plainRes fn.results.toList:=by
 unfold fnFit at h
 cases hf : p.funcs[f]? with
 | none => rw [hf] at h; cases h
 | some fn =>
  rw [hf] at h
  simp only [Bool.and_eq_true,Bool.not_eq_true'] at h
  cases hb : fn.body with
  | none => rw [hb] at h; cases h.2
  | some c => rw [hb] at h; exact ⟨fn,c,rfl,h.1.1,hb,h.2,resOk_plain h.1.2⟩
theorem zeros_low {p : Program} (h : zerosOk p = true) {t : TypeId} {i : TypeInfo} {z : Value} (ht : t < p.types.size) (hi : p.types[t]? = some i) (hz : i.zero = some z) : Zok z:=by
 unfold zerosOk at h
 rw [List.all_eq_true] at h
 have:=h t (List.mem_range.2 ht)
 have e : p.info? t = some i:=by show Tables.info? p.toTables t = some i; unfold Tables.info?; rw [if_pos ht]; exact hi
 rw [e] at this
 simp only [hz] at this
 exact λ S K R => valOk_vr 12 z this
theorem zeros_at {p : Program} (h : zerosOk p = true) : ∀ n,ZInfo (Made.infoAt p.toTables n):=by
 intro n
 induction n with
 | zero => intro t i z hi; cases hi
 | succ n ih =>
  intro t i z hi hz
  unfold Made.infoAt at hi
  split at hi
  ·next ht => exact zeros_low h ht hi hz
  ·obtain ⟨d,_,hd⟩:=Option.bind_eq_some_iff.1 hi
   exact zok_reckon ih hd hz
theorem zeros_ok {p : Program} (h : zerosOk p = true) {S : FuncId -> Prop} {K R : Pr} {t : TypeId} {i : TypeInfo} {z : Value} (hi : p.info? t = some i) (hz : i.zero = some z) : VR S K R z z:=by
 have hi' : Tables.info? p.toTables t = some i:=hi
 unfold Tables.info? at hi'
 split at hi'
 ·next ht => exact zeros_low h ht hi' hz S K R
 ·exact zeros_at h Made.depth t i z hi' hz S K R
def inL (l : List Nat) (f : FuncId) : Bool:=l.contains f
theorem inL_mem {l : List Nat} {f : FuncId} (h : inL l f = true) : f ∈ l:=by simpa [inL] using h
theorem fit3_of {p : Program} {gl fl : List Nat} (hz : zerosOk p = true) (h : gl.all (fnFit p (inL fl) (inL gl)) = true) : Fit3 (PS p (inL gl)) (inL fl) where
 zero:=λ K R t i z hi hz' => zeros_ok hz hi hz'
 fn:=λ f hf _ => by
  obtain ⟨fn,c,h1,h2,h3,h4,_⟩:=fnFit_ok (List.all_eq_true.1 h f (inL_mem hf))
  exact ⟨fn,c,h1,h1,h2,h3,h4⟩
 opq:=λ f _ ho => by cases ho
 low:=λ f ho => by cases ho
 dyn:=λ h => by cases h
 guard:=λ t => rfl
 res:=λ f hf _ fn hfn => by
  obtain ⟨fn',c,h1,h2,h3,h4,h5⟩:=fnFit_ok (List.all_eq_true.1 h f (inL_mem hf))
  have h1' : (PS p (inL gl)).c.funcs[f]? = some fn':=h1
  rw [h1'] at hfn
  obtain rfl:=Option.some.inj hfn
  exact h5
 follows:=rfl
 none:=λ _ => rfl
def opFit (p : Program) (fs gs : FuncId -> Bool) (f : FuncId) : Bool:=
 match p.funcs[f]? with
 | some fn => !(fn.name == "runtime.NumGoroutine") && (match fn.body with | some c => !(fitCode p ⟨fs,gs,false⟩ c) | none => false)
 | none => false
theorem lv_of {p : Program} {ol al gl fl : List Nat} (hz : zerosOk p = true) (h1 : gl.all (fnFit p (inL fl) (inL gl)) = true) (h2 : al.all (λ f => ol.contains f || fnFit p (inL fl) (inL al) f) = true) (h3 : ol.all (opFit p (inL fl) (inL gl)) = true) (h4 : ol.all (opFit p (inL fl) (inL al)) = true) :
  Lv p (inL ol) (inL al) (inL gl) (inL fl) where
 fit:={
  zero:=λ K R t i z hi hz' => zeros_ok hz hi hz'
  fn:=λ f hf ho => by
   have:=List.all_eq_true.1 h2 f (inL_mem hf)
   have ho' : ol.contains f = false:=ho
   rw [ho',Bool.false_or] at this
   obtain ⟨fn,c,h1,h2,h3,h4,_⟩:=fnFit_ok this
   exact ⟨fn,c,h1,h1,h2,h3,h4⟩
  opq:=λ f _ ho => by
   have:=List.all_eq_true.1 h4 f (inL_mem ho)
   unfold opFit at this
   cases hf : p.funcs[f]? with
   | none => rw [hf] at this; cases this
   | some fn =>
    rw [hf] at this
    simp only [Bool.and_eq_true,Bool.not_eq_true'] at this
    cases hb : fn.body with
    | none => rw [hb] at this; cases this.2
    | some c => exact ⟨fn,fn,c,c,rfl,rfl,this.1,this.1,hb,hb⟩
  low:=λ f ho => by cases ho
  dyn:=λ h => by cases h
  guard:=λ t => rfl
  res:=λ f hf ho fn hfn => by
   have:=List.all_eq_true.1 h2 f (inL_mem hf)
   have ho' : ol.contains f = false:=ho
   rw [ho',Bool.false_or] at this
   obtain ⟨fn',c,h1,h2,h3,h4,h5⟩:=fnFit_ok this
   have h1' : (PL p (inL ol) (inL al)).c.funcs[f]? = some fn':=h1
   rw [h1'] at hfn
   obtain rfl:=Option.some.inj hfn
   exact h5
  follows:=rfl }
 fit₁:=fit3_of hz h1
 nofit:=λ f ho => by
  have:=List.all_eq_true.1 h3 f (inL_mem ho)
  unfold opFit at this
  cases hf : p.funcs[f]? with
  | none => rw [hf] at this; cases this
  | some fn =>
   rw [hf] at this
   simp only [Bool.and_eq_true,Bool.not_eq_true'] at this
   cases hb : fn.body with
   | none => rw [hb] at this; cases this.2
   | some c => rw [hb] at this; exact ⟨fn,c,rfl,hb,this.1,by simpa using this.2⟩
end Go.Mt
