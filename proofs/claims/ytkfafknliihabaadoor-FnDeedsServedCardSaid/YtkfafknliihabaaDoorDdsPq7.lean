/-
 Part 7 of what stands behind the last text.
-/
import Derived.Conc.LoneCalls
import Derived.Conc.Beside
import Derived.Below
import Derived.Test.YtkfafknliihabaaDoorDdsPq6
set_option linter.unusedSectionVars false
set_option linter.unusedSimpArgs false
set_option linter.unusedVariables false
namespace Go.Tt
open Go.Conc (G solo)
def nilD : Deferred:={ target:=.nil,args:=#[] }
def pz : Frame:={ (default : Frame) with mode:=.panicking [],defers:=[nilD],kind:=.normal }
section
variable {P : Pair} {fs : FuncId -> Bool} {K R : Pr} {G' : Gp} {St : Nat -> Prop}
theorem bad_of_stuck (F : Fit2 P fs) (hG : G' = P.gp) {w W : World} (hw : WRel (SF fs) K R G' St w W) (ht : Tp w W) {m m' : Fm} {ms ms' : List Fm} (hm : FmR P fs K R m m') (hms : MsR P fs K R ms ms') (hstop : m.ret = true -> ms ≠ [])
  (hno : ∀ x w',(stepS P.g m ms).run P.g w ≠ .ok x w') (base : List Frame) :
  (∃ o w1 es,stepG P.g true (G m.fr (ms.map Fm.fr ++ base)) w = .ended o w1 es) \/
  (∃ x w1 es,stepG P.g true (G m.fr (ms.map Fm.fr ++ base)) w = .go (G x (ms.map Fm.fr ++ base)) w1 es /\ (∃ c,x.mode = .panicking c) /\ x.defers = []) \/
  ∃ cs sh y w1 w2 es,stepG P.g true (G m.fr (ms.map Fm.fr ++ base)) w = .comm (G m.fr (ms.map Fm.fr ++ base)) cs false sh w1 es /\ (commS cs sh).run P.g w1 = .halt y w2:=by
 have hR : RelOk P K R:=by subst hG; exact ⟨hw.inj,hw.inj',λ a b h => (hw.low a b h).1,hw.tb⟩
 unfold stepS at hno
 by_cases hr : m.ret = true
 ·simp only [hr,if_true] at hno
  cases hms with
  | nil => exact absurd rfl (hstop hr)
  | cons hc hwt hrest =>
   rename_i c c' rest rest'
   obtain ⟨_,ops,i,r,k,hk⟩:=hwt
   obtain ⟨fn,fn',e1,e2,e3,e4⟩:=hm.infs
   have he : results fn m.tmps = resS fn.results.toList m.tmps:=results_resS e4
   cases hx : (resS fn.results.toList m.tmps).run P.g w with
   | ok v w1 => exact absurd (retS_mk (rest:=rest) hk e1 hx).1 (hno _ _)
   | halt y w1 =>
    refine .inl ?_
    rw [Fm.fr_ret hr]
    cases y <;> exact ⟨_,_,_,by simp only [G,stepG,unwind,e1,he,Sem.runT_eq,hx,GStep.after]; rfl⟩
 ·have hr0 : m.ret = false:=by simpa using hr
  simp only [hr0,Bool.false_eq_true,if_false] at hno
  have hev : m.fr.eval = m.eval:=m.eval_fr
  have hfit:=hm.fit
  have hmt:=hm.tmps
  have hme:=hm.eval
  obtain ⟨fn,tmps,todo,ret⟩:=m
  simp only at hr0 hfit hmt
  subst hr0
  unfold runS at hno
  simp only at hno
  cases todo with
  | nil => exact absurd rfl (hno _ _)
  | cons x k =>
   have hx : fitItem P.c (cls P fs fn) x = true:=hfit x (by simp)
   cases x with
   | code c =>
    cases c with
    | skip => exact absurd rfl (hno _ _)
    | label l => exact absurd rfl (hno _ _)
    | ret => exact absurd rfl (hno _ _)
    | seq a b => exact absurd rfl (hno _ _)
    | block id body => exact absurd rfl (hno _ _)
    | loop body => exact absurd rfl (hno _ _)
    | scope body => exact absurd rfl (hno _ _)
    | cond c a b =>
     have hc:=congrFun hev c
     simp only at hno
     cases hv : Fm.eval { fn:=fn,tmps:=tmps,todo:=Item.code (Code.cond c a b) :: k,ret:=false } c with
     | bool t => rw [hv] at hno; exact absurd rfl (hno _ _)
     | _ =>
      left
      rw [hv] at hc
      simp only [Fm.fr,Bool.false_eq_true,if_false] at hc ⊢
      simp only [G,stepG,stepG.exec,hc]
      exact ⟨_,_,_,rfl⟩
    | exit id =>
     simp only at hno
     cases he : exitTo id k with
     | some k' => rw [he] at hno; exact absurd rfl (hno _ _)
     | none =>
      left
      simp only [Fm.fr,Bool.false_eq_true,if_false]
      simp [G,stepG,stepG.exec,he]
    | region id ops draw =>
     simp only at hno
     cases draw with
     | true => exact absurd (by simp [choose,Sem.run,Question.forced,Question.cut,bind,Sem.bind,pure]; exact ⟨rfl,rfl⟩) (hno _ _)
     | false => exact absurd rfl (hno _ _)
    | _ => cases hx
   | inBlock id => exact absurd rfl (hno _ _)
   | inScope c => exact absurd rfl (hno _ _)
   | inLoop c => exact absurd rfl (hno _ _)
   | inRegion ops l =>
    cases l with
    | nil => exact absurd rfl (hno _ _)
    | cons i rest =>
     simp only at hno
     cases ho : ops[i]? with
     | none => rw [ho] at hno; exact absurd rfl (hno _ _)
     | some o =>
      rw [ho] at hno
      simp only [Option.map_some,Option.getD_some] at hno
      by_cases hw' : Region.wanted o (yielded ops tmps) = true
      ·rw [if_pos hw'] at hno
       have hok : okOp P.c (cls P fs fn) o.op = true:=by
        have hx':=Array.all_eq_true.1 hx i (Array.getElem?_eq_some_iff.1 ho).1
        rwa [(Array.getElem?_eq_some_iff.1 ho).2] at hx'
       have hsim:=sim_execOp F.toFit hR hme (λ g => rfl) (λ g => rfl) (λ g => rfl) (λ g => rfl) (cls_fs P fs fn) (cls_gs F.toFit fn) (cls_dy F.toFit fn) hok
       have hrb : ∀ x w',((execOp (Fm.eval { fn:=fn,tmps:=tmps,todo:=Item.inRegion ops (i :: rest) :: k,ret:=false }) o).bind (opS P.g { fn:=fn,tmps:=tmps,todo:=Item.inRegion ops (i :: rest) :: k,ret:=false } ms ops i rest k)).run P.g w ≠ .ok x w':=hno
       rcases Sim.tame hG _ hsim hw ht with ⟨n,w1,hn⟩ | ⟨h,w1,hn,hth⟩
       ·have hae : Act.eval ⟨tmps,[]⟩ = Fm.eval { fn:=fn,tmps:=tmps,todo:=Item.inRegion ops (i :: rest) :: k,ret:=false }:=funext λ x => by cases x <;> rfl
        obtain ⟨R1,n',W1,ev,e1,e2,e3,e4,e5⟩:=Sim.run hG _ hsim hw ht hn
        have:=λ x w' => hrb x w'
        simp only [Sem.run_bind',hn,Result.andThen] at this
        cases e2 with
        | value hv => exact absurd rfl (this _ _)
        | skip => exact absurd rfl (this _ _)
        | comm hcs =>
         rename_i ccs ccs' sh
         cases hcc : (commS ccs sh).run P.g w1 with
         | ok v w2 =>
          exfalso
          have hb:=Sem.run_bind' P.g (commS ccs sh) (λ v => (Pure.pure (Fm.fin { fn:=fn,tmps:=tmps,todo:=Item.inRegion ops (i :: rest) :: k,ret:=false } ops i rest k v,ms) : Sem (Fm × List Fm))) w1
          rw [hcc] at hb
          exact this _ _ hb
         | halt y w2 =>
          right; right
          have h7:=Conc.stepG_comm (P:=P.g) (main:=true) (b:=Conc.base fn) (a:=⟨tmps,[]⟩) (rest:=rest) (k:=k) (cs:=List.map Fm.fr ms ++ base) (w:=w) ho hw' (by simp [Conc.base]) (by rw [hae]; exact hn)
          exact ⟨ccs,sh,y,w1,w2,_,h7,hcc⟩
        | enter hT ha =>
         rename_i f xs xs'
         have hf : P.gs f = true:=cls_gs F.toFit fn f hT
         cases ho2 : P.op f with
         | false =>
          obtain ⟨fn',c,q1,q2,q3,q4,q5⟩:=F.fn f hf ho2
          simp only [opS,q1,q4] at this
          exact absurd rfl (this _ _)
         | true =>
          obtain ⟨fn1,fn2,c1,c2,q1,q2,q3,q4,q5,q6⟩:=F.opq f hf ho2
          simp only [opS,q1,q5] at this
          exact absurd rfl (this _ _)
       ·have hae : Act.eval ⟨tmps,[]⟩ = Fm.eval { fn:=fn,tmps:=tmps,todo:=Item.inRegion ops (i :: rest) :: k,ret:=false }:=funext λ x => by cases x <;> rfl
        have hop:=Conc.stepG_oper (P:=P.g) (main:=true) (b:=Conc.base fn) (a:=⟨tmps,[]⟩) (k:=k) (cs:=List.map Fm.fr ms ++ base) (w:=w) (rest:=rest) ho hw'
        have hfr : (Fm.fr { fn:=fn,tmps:=tmps,todo:=Item.inRegion ops (i :: rest) :: k,ret:=false }) = (Conc.base fn).at ⟨tmps,[]⟩ (.inRegion ops (i :: rest) :: k):=rfl
        rw [hfr,hop,hae]
        cases h with
        | panic v =>
         right; left
         simp [stepG.apply,hn,GStep.after,G,Frame.raise,Frame.at]
        | stuck s => left; simp [stepG.apply,hn,GStep.after]
        | unsupported u =>
         left
         cases u <;> first | exact hth.elim | simp [stepG.apply,hn,GStep.after]
        | _ => exact hth.elim
      ·rw [if_neg hw'] at hno
       exact absurd rfl (hno _ _)
   | _ => cases hx
theorem step_solo_ended {p : Program} {a : Goroutine} {w w' : World} {o : Outcome} {es : Array Event} (hs : a.status = .running) (h : stepG p true a w = .ended o w' es) : step p (solo a w) = .ended o w':=by
 rw [step,Conc.stepT_solo hs,Conc.solo_eq_crowd,Conc.runT_many_ended (i:=0) rfl h]
theorem runN_next {p : Program} {m m' : Machine} (h : step p m = .next m') (n : Nat) : runN p (n + 1) m = runN p n m':=by simp [runN,h]
theorem runN_end {p : Program} {m : Machine} {o : Outcome} {w : World} (h : step p m = .ended o w) (n : Nat) : runN p (n + 1) m = .ended o w:=by simp [runN,h]
theorem solo_inj {g g' : Goroutine} {w w' : World} (h : solo g w = solo g' w') : g = g' /\ w = w':=by
 injection h with h1 h2
 injection h2 with h2
 injection h2 with h2
 exact ⟨h2,h1⟩
theorem G_inj {fr fr' : Frame} {cs cs' : List Frame} (h : G fr cs = G fr' cs') : fr = fr' /\ cs = cs':=by
 injection h with h1 h2
 exact ⟨h1,h2⟩
def Panics (x : Frame) : Prop:=∃ c,x.mode = .panicking c
theorem raise_panics (x : Frame) (vs : List PanicEntry) : Panics (x.raise vs) /\ (x.raise vs).defers = x.defers:=by
 unfold Frame.raise
 split
 ·exact ⟨⟨_,rfl⟩,rfl⟩
 ·exact ⟨⟨_,rfl⟩,rfl⟩
theorem pz_ends {p : Program} {x : Frame} {ds : List Deferred} (hd : x.defers = nilD :: ds) (hm : Panics x) (cs : List Frame) (w : World) : ∃ o w1 es,stepG p true (G x cs) w = .ended o w1 es:=by
 obtain ⟨c,hc⟩:=hm
 refine ⟨.unsupported (.noEntry "machine/Return: a deferred call of a nil function value, made while the frame is unwinding") ({ x with defers:=ds }.pos p),w,#[],?_⟩
 simp [G,stepG,hc,unwind,hd,callDeferred,nilD]
theorem bad_never {p : Program} (frT : Frame) (wT : World) (hT : frT.mode = .returning) : ∀ (n : Nat) (x : Frame) (ys : List Frame) (w : World),Panics x -> x.defers = [] -> (∀ y ∈ ys,y.defers = []) -> runN p n (solo (G x (ys ++ [pz])) w) ≠ .next (solo (G frT [pz]) wT):=by
 intro n
 induction n with
 | zero =>
  intro x ys w ⟨c,hc⟩ _ _ e
  simp only [runN,Stepped.next.injEq] at e
  have:=(G_inj (solo_inj e).1).1
  rw [this,hT] at hc; cases hc
 | succ n ih =>
  intro x ys w ⟨c,hc⟩ hd hys e
  have hrun : (G x (ys ++ [pz])).status = .running:=rfl
  by_cases hcat : x.catches p = true
  ·have hst : ∃ o w1 es,stepG p true (G x (ys ++ [pz])) w = .ended o w1 es:=by simp [G,stepG,hc,unwind,hd,hcat]
   obtain ⟨o,w1,es,hst⟩:=hst
   have hs:=step_solo_ended hrun hst
   simp [runN,hs] at e
  ·have hcat' : x.catches p = false:=by simpa using hcat
   cases ys with
   | nil =>
    have hst : stepG p true (G x [pz]) w = .go (G (pz.raise c) []) w:=by simp [G,stepG,hc,unwind,hd,hcat']
    have hs:=Conc.step_solo_go hrun hst
    replace e:=(runN_next hs n).symm.trans e
    cases n with
    | zero =>
     simp only [runN,Stepped.next.injEq] at e
     have:=(G_inj (solo_inj e).1).2
     cases this
    | succ n =>
     obtain ⟨o,w1,es,hst2⟩:=pz_ends (p:=p) (x:=pz.raise c) (ds:=[]) ((raise_panics pz c).2) (raise_panics pz c).1 [] w
     have hs2:=step_solo_ended rfl hst2
     have:=(runN_end hs2 n).symm.trans e
     cases this
   | cons y ys =>
    have hst : stepG p true (G x (y :: (ys ++ [pz]))) w = .go (G (y.raise c) (ys ++ [pz])) w:=by simp [G,stepG,hc,unwind,hd,hcat']
    have hs:=Conc.step_solo_go hrun hst
    replace e:=(runN_next hs n).symm.trans e
    exact ih (y.raise c) ys w (raise_panics y c).1 ((raise_panics y c).2.trans (hys y (by simp))) (λ z hz => hys z (by simp [hz])) e
theorem left_never {p : Program} (frT : Frame) (wT : World) {m : Fm} (hr : m.ret = true) {w : World} (n : Nat) : runN p (n + 1) (solo (G m.fr [pz]) w) ≠ .next (solo (G frT [pz]) wT):=by
 intro e
 have hrun : (G m.fr [pz]).status = .running:=rfl
 have key : (∃ o w1 es,stepG p true (G m.fr [pz]) w = .ended o w1 es) \/ ∃ v w1 es,stepG p true (G m.fr [pz]) w = .go (G (pz.finish v) []) w1 es:=by
  rw [Fm.fr_ret hr]
  cases hf : p.funcs[m.fn]? with
  | none => right; simp [G,stepG,unwind,doReturn,hf]; exact ⟨_,rfl⟩
  | some fn =>
   cases hx : (results fn m.tmps).run p w with
   | ok v w1 => right; simp [G,stepG,unwind,doReturn,hf,hx,GStep.after]; exact ⟨_,rfl⟩
   | halt h w1 => left; cases h <;> simp [G,stepG,unwind,hf,hx,GStep.after]
 rcases key with ⟨o,w1,es,hst⟩ | ⟨v,w1,es,hst⟩
 ·have hs:=step_solo_ended hrun hst
  simp [runN,hs] at e
 ·have hs:=Conc.step_solo_go hrun hst
  simp only [runN,hs] at e
  cases n with
  | zero =>
   simp only [runN,Stepped.next.injEq] at e
   have:=(G_inj (solo_inj e).1).2
   cases this
  | succ n =>
   have hpf : pz.finish v = pz:=rfl
   rw [hpf] at e
   obtain ⟨o,w2,es,hst2⟩:=pz_ends (p:=p) (x:=pz) (ds:=[]) rfl ⟨_,rfl⟩ [] w1
   have hs2:=step_solo_ended rfl hst2
   simp [runN,hs2] at e
end
end Go.Tt
namespace Go.Tt
open Go.Conc (G solo)
inductive Its (p : Program) : Nat -> Fm -> List Fm -> World -> Fm -> World -> Prop
 | stop {m : Fm} {w : World} : m.ret = true -> Its p 0 m [] w m w
 | step {n : Nat} {m m1 mT : Fm} {ms ms1 : List Fm} {w w1 wT : World} : (m.ret = true -> ms ≠ []) -> (stepS p m ms).run p w = .ok (m1,ms1) w1 -> Its p n m1 ms1 w1 mT wT -> Its p (n + 1) m ms w mT wT
structure Fit3 (P : Pair) (fs : FuncId -> Bool) : Prop extends Fit2 P fs where
 none : ∀ f,P.op f = false
section
variable (P : Pair) (fs : FuncId -> Bool) (K : Pr) (G' : Gp) (St : Nat -> Prop)
def RelS (m : Fm) (ms : List Fm) (w : World) : Prop:=∃ R W m' ms',WRel (SF fs) K R G' St w W /\ FmR P fs K R m m' /\ MsR P fs K R ms ms'
variable {P fs K G' St}
theorem WRel.tp {S : FuncId -> Prop} {R : Pr} {w W : World} (h : WRel S K R G' St w W) (T : Tape) (e : Nat) : WRel S K R G' St (tp w T e) (tp W T e):=
 ⟨h.inj,h.inj',h.lt,h.low,h.gle,h.cont,h.rest,h.st,h.np,h.tb⟩
theorem WRel.untp {S : FuncId -> Prop} {R : Pr} {w W : World} {T : Tape} {e : Nat} (h : WRel S K R G' St (Tt.tp w T e) W) : WRel S K R G' St w W:=
 ⟨h.inj,h.inj',h.lt,h.low,h.gle,h.cont,h.rest,h.st,h.np,h.tb⟩
theorem Tp.tp (w W : World) (T : Tape) (e : Nat) : Tp (tp w T e) (tp W T e):=λ _ _ => rfl
theorem WRel.relOk {S : FuncId -> Prop} {R : Pr} {w W : World} (hG : G' = P.gp) (h : WRel S K R G' St w W) : RelOk P K R:=by subst hG; exact ⟨h.inj,h.inj',λ a b x => (h.low a b x).1,h.tb⟩
theorem RelS.next (F : Fit3 P fs) (hG : G' = P.gp) {m m1 : Fm} {ms ms1 : List Fm} {w w1 : World} {T : Tape} {e : Nat} (h : RelS P fs K G' St m ms w) (hs : m.ret = true -> ms ≠ [])
  (hr : (stepS P.g m ms).run P.g (tp w T e) = .ok (m1,ms1) w1) : RelS P fs K G' St m1 ms1 w1:=by
 obtain ⟨R,W,m',ms',hw,hm,hms⟩:=h
 obtain ⟨R1,x',W1,ev,e1,e2,e3,e4,e5⟩:=Sim.run hG _ (sim_stepS (l:=false) F.toFit2 (hw.relOk hG) hm hms (λ e => by cases e) hs) (hw.tp T e) (Tp.tp w W T e) hr
 rcases e2 with e2 | ⟨_,⟨f,_,_,_,_,_,_,ho,_⟩⟩
 ·exact ⟨R1,W1,x'.1,x'.2,e3.rel,e2.1,e2.2.1⟩
 ·rw [F.none] at ho; cases ho
theorem RelS.locl (F : Fit3 P fs) (hG : G' = P.gp) {m : Fm} {ms : List Fm} {w : World} (h : RelS P fs K G' St m ms w) (hs : m.ret = true -> ms ≠ []) (T : Tape) (e : Nat) : Local P.g (stepS P.g m ms) (tp w T e):=by
 obtain ⟨R,W,m',ms',hw,hm,hms⟩:=h
 exact Sim.locl hG _ (sim_stepS (l:=false) F.toFit2 (hw.relOk hG) hm hms (λ e => by cases e) hs) (hw.tp T e) (Tp.tp w W T e)
theorem tp_self {w : World} {T : Tape} (h : w.tape = T) : tp w T w.drawn = w:=by subst h; rfl
theorem Its.alike (F : Fit3 P fs) (hG : G' = P.gp) : ∀ {n : Nat} {m mT : Fm} {ms : List Fm} {w wT : World} {T1 T2 : Tape} {e1 e2 : Nat},RelS P fs K G' St m ms w -> Its P.g n m ms (tp w T1 e1) mT wT -> (∀ n q,T2 (e2 + n) q = T1 (e1 + n) q) -> ∃ e3,Its P.g n m ms (tp w T2 e2) mT (tp wT T2 e3):=by
 intro n
 induction n with
 | zero =>
  intro m mT ms w wT T1 T2 e1 e2 hR h ht
  cases h with
  | stop hr => exact ⟨e2,.stop hr⟩
 | succ n ih =>
  intro m mT ms w wT T1 T2 e1 e2 hR h ht
  cases h with
  | step hs hr hn =>
   rename_i m1 ms1 w1
   obtain ⟨h1,h2,h3⟩:=hR.locl F hG hs T1 e1 _ _ hr
   have h4:=h3 T2 e2 (λ k _ q => ht k q)
   have hself : w1 = tp w1 T1 w1.drawn:=(tp_self h1).symm
   rw [hself] at hn
   obtain ⟨e3,h5⟩:=ih (T2:=T2) (e2:=e2 + (w1.drawn - e1)) (hR.next F hG hs hr) hn (λ k q => by
    have h2' : e1 <= w1.drawn:=h2
    rw [show e2 + (w1.drawn - e1) + k = e2 + ((w1.drawn - e1) + k) by omega,ht,show e1 + ((w1.drawn - e1) + k) = w1.drawn + k by omega])
   exact ⟨e3,.step hs h4 h5⟩
theorem fr_raise (m : Fm) (vs : List PanicEntry) : Panics (m.fr.raise vs) /\ (m.fr.raise vs).defers = []:=by
 obtain ⟨fn,tmps,td,r⟩:=m
 cases r <;> exact ⟨⟨_,rfl⟩,rfl⟩
theorem reach (F : Fit3 P fs) (hG : G' = P.gp) {frT : Frame} {wT : World} (hT : frT.mode = .returning) : ∀ (n : Nat) {m : Fm} {ms : List Fm} {w : World},RelS P fs K G' St m ms w ->
  runN P.g n (solo (G m.fr (ms.map Fm.fr ++ [pz])) w) = .next (solo (G frT [pz]) wT) -> ∃ k mT,Its P.g k m ms w mT wT /\ mT.fr = frT:=by
 intro n
 induction n with
 | zero =>
  intro m ms w hR h
  simp only [runN,Stepped.next.injEq] at h
  obtain ⟨h1,rfl⟩:=solo_inj h
  obtain ⟨h2,h3⟩:=G_inj h1
  have hms : ms = []:=by
   cases ms with
   | nil => rfl
   | cons a b => have:=congrArg List.length h3; simp at this
  subst hms
  have hr : m.ret = true:=by
   rw [<- h2] at hT
   cases hm : m.ret with
   | true => rfl
   | false => rw [Fm.fr_run hm] at hT; cases hT
  exact ⟨0,m,.stop hr,h2⟩
 | succ n ih =>
  intro m ms w hR h
  by_cases hstop : m.ret = true /\ ms = []
  ·obtain ⟨hr,rfl⟩:=hstop
   exact absurd h (left_never frT wT hr n)
  ·have hs : m.ret = true -> ms ≠ []:=λ a b => hstop ⟨a,b⟩
   have hself : tp w w.tape w.drawn = w:=rfl
   by_cases hok : ∃ x w1,(stepS P.g m ms).run P.g w = .ok x w1
   ·obtain ⟨⟨m1,ms1⟩,w1,hr⟩:=hok
    have hstep : step P.g (solo (G m.fr (ms.map Fm.fr ++ [pz])) w) = .next (solo (G m1.fr (ms1.map Fm.fr ++ [pz])) w1):=by
     rcases stepG_stepS (main:=true) hr [pz] with hst | hcs
     ·exact Conc.step_solo_go rfl hst
     ·obtain ⟨o,cs,sh,v,wm,_,hst,hc,hfr,hms,_⟩:=hcs.stepG (main:=true) [pz]
      rw [hfr,hms]
      exact step_solo_comm hst hc
    obtain ⟨k,mT,h1,h2⟩:=ih (RelS.next (T:=w.tape) (e:=w.drawn) F hG hR hs hr) ((runN_next hstep n).symm.trans h)
    exact ⟨k + 1,mT,.step hs hr h1,h2⟩
   ·exfalso
    obtain ⟨R,W,m',ms',hw,hm,hms⟩:=hR
    rcases bad_of_stuck F.toFit2 hG (hw.tp w.tape w.drawn) (Tp.tp w W w.tape w.drawn) hm hms hs (λ x w' e => hok ⟨x,w',e⟩) [pz] with ⟨o,w1,es,hst⟩ | ⟨x,w1,es,hst,hp,hd⟩ | ⟨cs,sh,y,w1,w2,es,hst,hc⟩
    ·have hstep:=step_solo_ended rfl hst
     have:=(runN_end hstep n).symm.trans h
     cases this
    ·have hstep:=Conc.step_solo_go rfl hst
     exact bad_never frT wT hT n x (ms.map Fm.fr) w1 hp hd (λ y hy => by obtain ⟨z,_,rfl⟩:=List.mem_map.1 hy; rfl) ((runN_next hstep n).symm.trans h)
    ·rcases step_solo_bad hst hc with ⟨o,w3,hstep⟩ | ⟨vs,w3,hstep⟩
     ·have:=(runN_end hstep n).symm.trans h
      cases this
     ·exact bad_never frT wT hT n (m.fr.raise vs) (ms.map Fm.fr) w3 (fr_raise m vs).1 (fr_raise m vs).2 (λ y hy => by obtain ⟨z,_,rfl⟩:=List.mem_map.1 hy; rfl) ((runN_next hstep n).symm.trans h)
inductive LT (p : Program) (Q : Fm -> World -> Prop) : Fm -> List Fm -> World -> Prop
 | stop {m : Fm} {w : World} : m.ret = true -> Q m w -> LT p Q m [] w
 | step {m : Fm} {ms : List Fm} {w : World} (nx : Tape -> (Fm × List Fm) × World) : (m.ret = true -> ms ≠ []) -> (∀ T,(stepS p m ms).run p (tp w T 0) = .ok (nx T).1 (nx T).2) -> (∀ T,LT p Q (nx T).1.1 (nx T).1.2 (nx T).2) -> LT p Q m ms w
def Hyp (P : Pair) (fs : FuncId -> Bool) (K : Pr) (G' : Gp) (St : Nat -> Prop) (Q : Fm -> World -> Prop) (s : Fm × List Fm × World) : Prop:=
 RelS P fs K G' St s.1 s.2.1 s.2.2 /\ ∀ T,∃ n mT wT,Its P.g n s.1 s.2.1 (tp s.2.2 T 0) mT wT /\ Q mT wT
theorem bar (F : Fit3 P fs) (hG : G' = P.gp) {Q : Fm -> World -> Prop} (hQ : ∀ m w T e,Q m w -> Q m (tp w T e)) {m : Fm} {ms : List Fm} {w : World} (h : Hyp P fs K G' St Q (m,ms,w)) : LT P.g Q m ms w:=by
 refine Classical.byContradiction λ hno => ?_
 let Bad : Fm × List Fm × World -> Prop:=λ s => Hyp P fs K G' St Q s /\ ¬ LT P.g Q s.1 s.2.1 s.2.2
 have notstop : ∀ s,Bad s -> s.1.ret = true -> s.2.1 ≠ []:=by
  rintro ⟨m,ms,w⟩ ⟨⟨hR,hI⟩,hn⟩ hr e
  simp only at hr e hn hI
  subst e
  obtain ⟨n,mT,wT,hits,hq⟩:=hI w.tape
  cases hits with
  | stop _ => exact hn (.stop hr (show Q m (tp (tp w w.tape 0) w.tape w.drawn) from hQ _ _ w.tape w.drawn hq))
  | step hs _ _ => exact hs hr rfl
 have next : ∀ s,Bad s -> ∃ (T : Tape) (s1 : Fm × List Fm × World),(stepS P.g s.1 s.2.1).run P.g (tp s.2.2 T 0) = .ok (s1.1,s1.2.1) s1.2.2 /\ Bad s1:=by
  rintro ⟨m,ms,w⟩ hb
  have hs:=notstop _ hb
  obtain ⟨⟨hR,hI⟩,hn⟩:=hb
  simp only at hs hI hn hR ⊢
  have hok : ∀ T,∃ x w1,(stepS P.g m ms).run P.g (tp w T 0) = .ok x w1:=λ T => by
   obtain ⟨n,mT,wT,hits,_⟩:=hI T
   cases hits with
   | stop hr => exact absurd rfl (hs hr)
   | step _ hr _ => exact ⟨_,_,hr⟩
  refine Classical.byContradiction λ hno2 => hn ?_
  let x:=λ T => (hok T).choose
  let w1:=λ T => (hok T).choose_spec.choose
  have hx : ∀ T,(stepS P.g m ms).run P.g (tp w T 0) = .ok (x T) (w1 T):=λ T => (hok T).choose_spec.choose_spec
  refine .step (λ T => (x T,w1 T)) hs hx λ T => Classical.byContradiction λ hlt => hno2 ⟨T,((x T).1,(x T).2,w1 T),hx T,⟨?_,?_⟩,hlt⟩
  ·exact hR.next F hG hs (hx T)
  ·intro T'
   obtain ⟨h1,h2,h3⟩:=hR.locl F hG hs T 0 _ _ (hx T)
   let T2 : Tape:=λ n q => if n < (w1 T).drawn then T n q else T' (n - (w1 T).drawn) q
   have h4:=h3 T2 0 (λ n hn q => by
    have hn' : n < (w1 T).drawn:=by simpa [tp] using hn
    show (if 0 + n < (w1 T).drawn then T (0 + n) q else _) = _
    rw [if_pos (by omega)]; rfl)
   obtain ⟨n,mT,wT,hits,hq⟩:=hI T2
   cases hits with
   | stop hr => exact absurd rfl (hs hr)
   | step hs' hr hn' =>
    rename_i n' m1 ms1 w2
    have h4' : (stepS P.g m ms).run P.g (tp w T2 0) = .ok (x T) (tp (w1 T) T2 (0 + ((w1 T).drawn - (tp w T 0).drawn))):=h4
    rw [h4'] at hr
    injection hr with e1 e2
    have hx1 : m1 = (x T).1:=by rw [e1]
    have hx2 : ms1 = (x T).2:=by rw [e1]
    subst hx1 hx2
    rw [<- e2] at hn'
    have hd : 0 + ((w1 T).drawn - (tp w T 0).drawn) = (w1 T).drawn:=by show 0 + ((w1 T).drawn - 0) = _; omega
    rw [hd] at hn'
    obtain ⟨e3,h5⟩:=Its.alike (T2:=T') (e2:=0) F hG (hR.next F hG hs (hx T)) hn' (λ k q => by
     show _ = (if (w1 T).drawn + k < (w1 T).drawn then _ else T' ((w1 T).drawn + k - (w1 T).drawn) q)
     rw [if_neg (by omega)]
     congr 1; omega)
    exact ⟨n',mT,_,h5,hQ _ _ _ _ hq⟩
 have hstart : Bad (m,ms,w):=⟨h,hno⟩
 let nT:=λ s (hb : Bad s) => (next s hb).choose
 let nS:=λ s (hb : Bad s) => (next s hb).choose_spec.choose
 have hrun : ∀ s (hb : Bad s),(stepS P.g s.1 s.2.1).run P.g (tp s.2.2 (nT s hb) 0) = .ok ((nS s hb).1,(nS s hb).2.1) (nS s hb).2.2:=λ s hb => (next s hb).choose_spec.choose_spec.1
 have hbad : ∀ s (hb : Bad s),Bad (nS s hb):=λ s hb => (next s hb).choose_spec.choose_spec.2
 let seq : Nat -> { s : Fm × List Fm × World // Bad s }:=λ k => Nat.rec ⟨(m,ms,w),hstart⟩ (λ _ s => ⟨nS s.1 s.2,hbad s.1 s.2⟩) k
 let tps : Nat -> Tape:=λ k => nT (seq k).1 (seq k).2
 let d : Nat -> Nat:=λ k => (seq (k + 1)).1.2.2.drawn
 let D : Nat -> Nat:=λ k => Nat.rec 0 (λ k x => x + d k) k
 have hD : ∀ k,D (k + 1) = D k + d k:=λ k => rfl
 have hmono : ∀ i j,i <= j -> D i <= D j:=λ i j hij => by
  induction hij with
  | refl => exact Nat.le_refl _
  | step _ ih => exact Nat.le_trans ih (by rw [hD]; omega)
 classical
 let TS : Tape:=λ N q => if hh : ∃ k,D k <= N /\ N < D (k + 1) then tps hh.choose (N - D hh.choose) q else 0
 have hTS : ∀ k n q,n < d k -> TS (D k + n) q = tps k n q:=by
  intro k n q hn
  have hh : ∃ j,D j <= D k + n /\ D k + n < D (j + 1):=⟨k,by omega,by rw [hD]; omega⟩
  have hc:=hh.choose_spec
  have hk : hh.choose = k:=by
   rcases Nat.lt_trichotomy hh.choose k with x | x | x
   ·have:=hmono (hh.choose + 1) k x; omega
   ·exact x
   ·have:=hmono (k + 1) hh.choose x; rw [hD] at this; omega
  show (if hh : ∃ j,D j <= D k + n /\ D k + n < D (j + 1) then _ else _) = _
  rw [dif_pos hh,hk]
  congr 1; omega
 have hstep : ∀ k,(stepS P.g (seq k).1.1 (seq k).1.2.1).run P.g (tp (seq k).1.2.2 TS (D k)) = .ok ((seq (k + 1)).1.1,(seq (k + 1)).1.2.1) (tp (seq (k + 1)).1.2.2 TS (D (k + 1))):=by
  intro k
  have hb:=(seq k).2
  have hs:=notstop _ hb
  have hr:=hrun (seq k).1 (seq k).2
  obtain ⟨h1,h2,h3⟩:=hb.1.1.locl F hG hs (tps k) 0 _ _ hr
  have h4:=h3 TS (D k) (λ n hn q => by
   have hn' : n < d k:=by have : n < (nS (seq k).1 (seq k).2).2.2.drawn - 0:=hn; simpa using this
   rw [hTS k n q hn']
   show _ = tps k (0 + n) q
   rw [Nat.zero_add])
  have e1 : D k + ((nS (seq k).1 (seq k).2).2.2.drawn - (tp (seq k).1.2.2 (tps k) 0).drawn) = D (k + 1):=by rw [hD]; show D k + ((seq (k + 1)).1.2.2.drawn - 0) = _; rfl
  rw [e1] at h4
  exact h4
 obtain ⟨n,mT,wT,hits,_⟩:=h.2 TS
 have key : ∀ (n k : Nat) (mT : Fm) (wT : World),Its P.g n (seq k).1.1 (seq k).1.2.1 (tp (seq k).1.2.2 TS (D k)) mT wT -> False:=by
  intro n
  induction n with
  | zero =>
   intro k mT wT hi
   have hs:=notstop _ (seq k).2
   generalize hms : (seq k).1.2.1 = ms0 at hi hs
   cases hi with
   | stop hr => exact hs hr rfl
  | succ n ih =>
   intro k mT wT hi
   have hst:=hstep k
   generalize hms : (seq k).1.2.1 = ms0 at hi hst
   generalize hmm : (seq k).1.1 = m0 at hi hst
   generalize hww : tp (seq k).1.2.2 TS (D k) = w0 at hi hst
   cases hi with
   | step hs' hr hn =>
    rename_i m1 ms1 w1
    rw [hst] at hr
    injection hr with e1 e2
    injection e1 with e1 e3
    subst e1 e2 e3
    exact ih (k + 1) mT wT hn
 exact key n 0 mT wT hits
end
end Go.Tt
namespace Go.Tt
open Go.Conc
section
variable {P : Pair} {fs : FuncId -> Bool} {K R : Pr} {G' : Gp} {St : Nat -> Prop}
theorem commS_cases {p : Program} {cs : Array CommCase} {sh : CommShape} {v : Value} {w w' : World} (h : (commS cs sh).run p w = .ok v w') : ∀ c ∈ cs.toList,caseOk w c:=by
 unfold commS at h
 have h2:=(Sem.run_bind' p (readyS 0 cs.toList) _ w).symm.trans h
 cases hx : (readyS 0 cs.toList).run p w with
 | halt y w1 => rw [hx] at h2; cases h2
 | ok rs w1 => exact (readyS_run (gs:=#[]) hx (λ c _ r _ b => rfl)).2.1
theorem CsR.back {S : FuncId -> Prop} {cs cs' : List CommCase} (h : CsR S K R cs cs') : ∀ c' ∈ cs',∃ c ∈ cs,CcR S K R c c':=by
 induction h with
 | nil => intro c' hc; cases hc
 | cons a _ ih =>
  intro c' hc
  rcases List.mem_cons.1 hc with rfl | hc
  ·exact ⟨_,by simp,a⟩
  ·obtain ⟨c,h1,h2⟩:=ih c' hc
   exact ⟨c,by simp [h1],h2⟩
theorem comm_rel (F : Fit2 P fs) (hG : G' = P.gp) {w W W1 w1 : World} (hw : WRel (SF fs) K R G' St w W) (ht : Tp w W) {m m' x' : Fm} {ms ms' xs' : List Fm} {y : Fm × List Fm} (hm : FmR P fs K R m m')
  (hrun : (stepS P.g m ms).run P.g w = .ok y w1) (hc : CommStep P.c m' x' ms' xs' W W1) :
  ∃ ops i rest k o cs sh v wm R1,m'.ret = false /\ m'.todo = .inRegion ops (i :: rest) :: k /\ ops[i]? = some o /\ Region.wanted o (yielded ops m'.tmps) = true /\ (execOp m'.eval o).run P.c W = .ok (.comm cs false sh) wm /\ (commS cs sh).run P.c wm = .ok v W1 /\
   x' = m'.fin ops i rest k v /\ xs' = ms' /\ (∀ e ∈ (execOp m'.eval o).events P.c W #[],EvOk R1 St e) /\
   R.le R1 /\ (∀ a b,R1 a b -> R a b \/ (w.heap.size <= a /\ W.heap.size <= b /\ b < wm.heap.size)) /\ wm.heap.size <= W1.heap.size /\ (∀ c ∈ cs.toList,∀ r,c.chan = .chan (some r) -> ∃ r0,R1 r0 r /\ ¬ St r0):=by
 have hR : RelOk P K R:=hw.relOk hG
 obtain ⟨ops,i,rest,k,o,cs,sh,v,wm,hr,htd,ho,hwt,hx,hcm,rfl,rfl⟩:=hc
 have hmr : m.ret = false:=hm.ret.trans hr
 have hmt : m.todo = .inRegion ops (i :: rest) :: k:=hm.todo.trans htd
 have hfit:=hm.fit (.inRegion ops (i :: rest)) (by rw [hmt]; simp)
 have hok : okOp P.c (cls P fs m.fn) o.op = true:=by
  have hx':=Array.all_eq_true.1 hfit i (Array.getElem?_eq_some_iff.1 ho).1
  rwa [(Array.getElem?_eq_some_iff.1 ho).2] at hx'
 have hsim:=sim_execOp F.toFit hR hm.eval (λ g => rfl) (λ g => rfl) (λ g => rfl) (λ g => rfl) (cls_fs P fs m.fn) (cls_gs F.toFit m.fn) (cls_dy F.toFit m.fn) hok
 have hwt' : Region.wanted o (yielded ops m.tmps) = true:=by rw [yielded_rel ops hm.tmps]; exact hwt
 have hrun2 : ((execOp m.eval o).bind (opS P.g m ms ops i rest k)).run P.g w = .ok y w1:=by
  unfold stepS at hrun
  simp only [hmr,Bool.false_eq_true,if_false] at hrun
  unfold runS at hrun
  rw [hmt] at hrun
  simp only [ho,Option.map_some,Option.getD_some,hwt',if_true] at hrun
  exact hrun
 rw [Sem.run_bind'] at hrun2
 cases hn : (execOp m.eval o).run P.g w with
 | halt z w2 => rw [hn] at hrun2; cases hrun2
 | ok n w2 =>
  rw [hn] at hrun2
  simp only [Result.andThen] at hrun2
  obtain ⟨R1,n',W2,ev,e1,e2,e3,e4,e5⟩:=Sim.run hG _ hsim hw ht hn
  rw [hx] at e1
  injection e1 with e1a e1b
  subst e1a e1b
  cases e2 with
  | comm hcs =>
   rename_i cs0
   simp only [opS] at hrun2
   have h4:=(Sem.run_bind' P.g _ _ w2).symm.trans hrun2
   cases hc0 : (commS cs0 sh).run P.g w2 with
   | halt z w3 => rw [hc0] at h4; cases h4
   | ok v0 w3 =>
    obtain ⟨R2,v',W3,ev2,f1,f2,f3,f4,f5⟩:=Sim.run hG _ (sim_commS sh hcs) e3.rel (ht.step e3) hc0
    rw [hcm] at f1
    injection f1 with f1a f1b
    subst f1a f1b
    have hcase:=commS_cases hc0
    refine ⟨ops,i,rest,k,o,cs,sh,v,wm,R1,hr,htd,ho,hwt,hx,hcm,rfl,rfl,λ e he => ?_,e3.le,λ a b x => ?_,f3.size.2,λ c hcc r hcr => ?_⟩
    ·rw [e4] at he
     exact e5 e (by simpa using he)
    ·rcases e3.new a b x with z | ⟨z1,z2⟩
     ·exact .inl z
     ·exact .inr ⟨z1,z2,(e3.rel.ltR a b x).2⟩
    ·obtain ⟨c0,hc0m,hcr0⟩:=hcs.back c hcc
     cases hcr0 with
     | mk ha hs hz =>
      rename_i a a' z z' s s'
      simp only at hcr
      subst hcr
      rcases hcase _ hc0m with h | ⟨r0,h,cap,buf,closed,sn,rc,tm,hob⟩
      ·simp only at h
       subst h
       cases ha with
       | chan x => cases x
      ·simp only at h
       subst h
       cases ha with
       | chan x =>
        cases x with
        | some x =>
         have hRr : R1 r0 r:=by
          rcases x with x | x
          ·exact x
          ·refine Classical.byContradiction λ hno => ?_
           by_cases hex : ∃ c,R1 r0 c
           ·obtain ⟨c,hc⟩:=hex
            have:=e3.rel.inj r0 c r (.inl hc) (.inr x)
            subst this
            exact hno hc
           ·have:=e3.rel.rest r0 r x λ c hc => hex ⟨c,hc⟩
            rw [hob] at this
            cases this
         refine ⟨r0,hRr,λ hs => ?_⟩
         obtain ⟨_,cc,TT,hi,hcell,_⟩:=e3.rel.st r0 hs
         rw [hob] at hcell
         cases hcell
theorem comm_beh (F : Fit2 P fs) (hG : G' = P.gp) {main : Bool} {w W W1 w1 : World} (hw : WRel (SF fs) K R G' St w W) (ht : Tp w W) {m m' x' : Fm} {ms ms' xs' : List Fm} {y : Fm × List Fm} (hm : FmR P fs K R m m')
  (hrun : (stepS P.g m ms).run P.g w = .ok y w1) (hc : CommStep P.c m' x' ms' xs' W W1) (base : List Frame) :
  ∃ cs sh v wm es R1,stepG P.c main (G m'.fr (ms'.map Fm.fr ++ base)) W = .comm (G m'.fr (ms'.map Fm.fr ++ base)) cs false sh wm es /\ (commS cs sh).run P.c wm = .ok v W1 /\ x'.fr = m'.fr.finish v /\ xs' = ms' /\ (∀ e ∈ es,EvOk R1 St e) /\
   R.le R1 /\ (∀ a b,R1 a b -> R a b \/ (w.heap.size <= a /\ W.heap.size <= b /\ b < wm.heap.size)) /\ wm.heap.size <= W1.heap.size /\ (∀ c ∈ cs.toList,∀ r,c.chan = .chan (some r) -> ∃ r0,R1 r0 r /\ ¬ St r0):=by
 obtain ⟨ops,i,rest,k,o,cs,sh,v,wm,R1,hr,htd,ho,hwt,hx,hcm,rfl,rfl,h5,h6,h7,h8,h9⟩:=comm_rel F hG hw ht hm hrun hc
 have hstep : stepG P.c main (G m'.fr (xs'.map Fm.fr ++ base)) W = .comm (G m'.fr (xs'.map Fm.fr ++ base)) cs false sh wm (seen P.c m'.fn ((execOp m'.eval o).events P.c W #[])):=by
  obtain ⟨fn,tmps,todo,ret⟩:=m'
  simp only at hr htd hwt
  subst hr htd
  have hae' : Act.eval ⟨tmps,[]⟩ = Fm.eval { fn:=fn,tmps:=tmps,todo:=Item.inRegion ops (i :: rest) :: k,ret:=false }:=funext λ x => by cases x <;> rfl
  have:=Conc.stepG_comm (P:=P.c) (main:=main) (b:=Conc.base fn) (a:=⟨tmps,[]⟩) (rest:=rest) (k:=k) (cs:=List.map Fm.fr xs' ++ base) (w:=W) ho hwt (by simp [Conc.base]) (by rw [hae']; exact hx)
  unfold Conc.listed at this
  rw [hae'] at this
  exact this
 exact ⟨cs,sh,v,wm,_,R1,hstep,hcm,(finish_fr htd v).symm,rfl,λ e he => h5 e (mem_seen he),h6,h7,h8,h9⟩
end
end Go.Tt
namespace Go.Tt
inductive LTs (p : Program) (N : Fm -> Prop) (Stop : Fm -> List Fm -> World -> Prop) : Fm -> List Fm -> World -> Prop
 | stop {m : Fm} {ms : List Fm} {w : World} : Stop m ms w -> LTs p N Stop m ms w
 | step {m : Fm} {ms : List Fm} {w : World} (nx : Tape -> (Fm × List Fm) × World) : (m.ret = true -> ms ≠ []) -> (∀ T,(stepS p m ms).run p (tp w T 0) = .ok (nx T).1 (nx T).2) -> (∀ T,N (nx T).1.1) -> (∀ T,LTs p N Stop (nx T).1.1 (nx T).1.2 (nx T).2) -> LTs p N Stop m ms w
def Fm.app (m : Fm) (k : List Item) : Fm:={ m with todo:=m.todo ++ k }
theorem Fm.app_nil (m : Fm) : m.app [] = m:=by unfold Fm.app; simp
theorem exitTo_app {id : Nat} : ∀ {l l' : List Item} (k : List Item),exitTo id l = some l' -> exitTo id (l ++ k) = some (l' ++ k)
 | [],_,_,h => by simp [exitTo] at h
 | x :: l,l',k,h => by
  have tail : exitTo id l = some l' -> exitTo id (l ++ k) = some (l' ++ k):=exitTo_app k
  cases x <;> simp only [exitTo,List.cons_append] at h ⊢ <;> first | exact tail h | skip
  split at h
  ·next e => simp only [Option.some.injEq] at h; subst h; rw [if_pos e]
  ·next e => rw [if_neg e]; exact tail h
section
variable {p : Program}
theorem Fm.fin_app (m : Fm) (ops : Array Oper) (i : Nat) (rest : List Nat) (k0 k : List Item) (v : Value) : (m.app k).fin ops i rest (k0 ++ k) v = (m.fin ops i rest k0 v).app k:=by
 unfold Fm.fin Fm.app
 simp
theorem runS_app {m x : Fm} {ms ys ms' : List Fm} {w w1 : World} (k : List Item) (hne : m.todo ≠ []) (h : (runS p m ms).run p w = .ok (x,ys) w1) :
  (ys = ms /\ (runS p (m.app k) ms').run p w = .ok (x.app k,ms') w1) \/ (ys = m :: ms /\ (runS p (m.app k) ms').run p w = .ok (x,m.app k :: ms') w1):=by
 obtain ⟨fn,tmps,todo,ret⟩:=m
 simp only at hne
 unfold runS at h ⊢
 simp only [Fm.app] at h ⊢
 cases todo with
 | nil => exact absurd rfl hne
 | cons it k0 =>
  simp only [List.cons_append] at h ⊢
  cases it with
  | code c =>
   cases c with
   | cond c a b =>
    simp only at h ⊢
    have he : Fm.eval { fn:=fn,tmps:=tmps,todo:=Item.code (Code.cond c a b) :: (k0 ++ k),ret:=ret } c = Fm.eval { fn:=fn,tmps:=tmps,todo:=Item.code (Code.cond c a b) :: k0,ret:=ret } c:=by cases c <;> rfl
    rw [he]
    cases hv : Fm.eval { fn:=fn,tmps:=tmps,todo:=Item.code (Code.cond c a b) :: k0,ret:=ret } c with
    | bool t =>
     rw [hv] at h
     simp only [Pure.pure,Sem.run,Result.ok.injEq,Prod.mk.injEq] at h
     obtain ⟨⟨rfl,rfl⟩,rfl⟩:=h
     exact .inl ⟨rfl,rfl⟩
    | _ => rw [hv] at h; simp [stuck,Sem.run] at h
   | exit id =>
    simp only at h ⊢
    cases he : exitTo id k0 with
    | some k' =>
     rw [he] at h
     rw [exitTo_app k he]
     simp only [Pure.pure,Sem.run,Result.ok.injEq,Prod.mk.injEq] at h
     obtain ⟨⟨rfl,rfl⟩,rfl⟩:=h
     exact .inl ⟨rfl,rfl⟩
    | none => rw [he] at h; simp [stuck,Sem.run] at h
   | region id ops draw =>
    cases draw with
    | true =>
     simp only [if_true] at h ⊢
     have h2:=(Sem.run_bind' p (choose (.order fn id)) _ w).symm.trans h
     have h3:=λ (f : Nat -> Sem (Fm × List Fm)) => Sem.run_bind' p (choose (.order fn id)) f w
     cases hc : (choose (.order fn id)).run p w with
     | ok t w2 =>
      rw [hc] at h2 h3
      simp only [Result.andThen] at h2 h3
      simp only [Pure.pure,Sem.run,Result.ok.injEq,Prod.mk.injEq] at h2
      obtain ⟨⟨rfl,rfl⟩,rfl⟩:=h2
      exact .inl ⟨rfl,h3 _⟩
     | halt y w2 => rw [hc] at h2; cases h2
    | false =>
     simp only [Bool.false_eq_true,if_false,Pure.pure,Sem.run,Result.ok.injEq,Prod.mk.injEq] at h
     obtain ⟨⟨rfl,rfl⟩,rfl⟩:=h
     exact .inl ⟨rfl,rfl⟩
   | _ =>
    first
     | (simp [stuck,Sem.run] at h; done)
     | (
       simp only [Pure.pure,Sem.run,Result.ok.injEq,Prod.mk.injEq] at h
       obtain ⟨⟨rfl,rfl⟩,rfl⟩:=h
       exact .inl ⟨rfl,rfl⟩)
  | inRegion ops l =>
   cases l with
   | nil =>
    simp only [Pure.pure,Sem.run,Result.ok.injEq,Prod.mk.injEq] at h
    obtain ⟨⟨rfl,rfl⟩,rfl⟩:=h
    exact .inl ⟨rfl,rfl⟩
   | cons i rest =>
    simp only at h ⊢
    have hfin : ∀ v,Fm.fin { fn:=fn,tmps:=tmps,todo:=Item.inRegion ops (i :: rest) :: (k0 ++ k),ret:=ret } ops i rest (k0 ++ k) v = (Fm.fin { fn:=fn,tmps:=tmps,todo:=Item.inRegion ops (i :: rest) :: k0,ret:=ret } ops i rest k0 v).app k:=λ v => Fm.fin_app { fn:=fn,tmps:=tmps,todo:=Item.inRegion ops (i :: rest) :: k0,ret:=ret } ops i rest k0 k v
    by_cases hw : ((ops[i]?).map (Region.wanted · (yielded ops tmps))).getD false = true
    ·rw [if_pos hw] at h
     simp only [hw,if_true]
     cases ho : ops[i]? with
     | none => rw [ho] at h; simp [stuck,Sem.run] at h
     | some o =>
      rw [ho] at h
      simp only at h ⊢
      have hev : Fm.eval { fn:=fn,tmps:=tmps,todo:=Item.inRegion ops (i :: rest) :: (k0 ++ k),ret:=ret } = Fm.eval { fn:=fn,tmps:=tmps,todo:=Item.inRegion ops (i :: rest) :: k0,ret:=ret }:=by funext y; cases y <;> rfl
      rw [hev]
      have h2:=(Sem.run_bind' p _ _ w).symm.trans h
      have h3:=λ (f : Next -> Sem (Fm × List Fm)) => Sem.run_bind' p (execOp (Fm.eval { fn:=fn,tmps:=tmps,todo:=Item.inRegion ops (i :: rest) :: k0,ret:=ret }) o) f w
      cases hc : (execOp (Fm.eval { fn:=fn,tmps:=tmps,todo:=Item.inRegion ops (i :: rest) :: k0,ret:=ret }) o).run p w with
      | halt y w2 => rw [hc] at h2; cases h2
      | ok n w2 =>
       rw [hc] at h2 h3
       simp only [Result.andThen] at h2 h3
       cases n with
       | value v =>
        simp only [opS,Pure.pure,Sem.run,Result.ok.injEq,Prod.mk.injEq] at h2
        obtain ⟨⟨rfl,rfl⟩,rfl⟩:=h2
        refine .inl ⟨rfl,(h3 _).trans ?_⟩
        simp only [opS,Pure.pure,Sem.run,hfin]; rfl
       | skip =>
        simp only [opS,Pure.pure,Sem.run,Result.ok.injEq,Prod.mk.injEq] at h2
        obtain ⟨⟨rfl,rfl⟩,rfl⟩:=h2
        refine .inl ⟨rfl,(h3 _).trans ?_⟩
        simp only [opS,Pure.pure,Sem.run,hfin]; rfl
       | enter f args =>
        simp only [opS] at h2
        cases hf : p.funcs[f]? with
        | none => rw [hf] at h2; simp [stuck,Sem.run] at h2
        | some fn2 =>
         cases hb : fn2.body with
         | none => rw [hf] at h2; simp only [hb] at h2; simp [stuck,Sem.run] at h2
         | some c =>
          rw [hf] at h2
          simp only [hb,Pure.pure,Sem.run,Result.ok.injEq,Prod.mk.injEq] at h2
          obtain ⟨⟨rfl,rfl⟩,rfl⟩:=h2
          refine .inr ⟨rfl,(h3 _).trans ?_⟩
          simp only [opS,hf,hb,Pure.pure,Sem.run]
       | comm cs b sh =>
        cases b with
        | true => simp [opS,stuck,Sem.run] at h2
        | false =>
         simp only [opS] at h2
         have h4:=(Sem.run_bind' p _ _ w2).symm.trans h2
         cases hcm : (commS cs sh).run p w2 with
         | halt y w3 => rw [hcm] at h4; cases h4
         | ok v w3 =>
          rw [hcm] at h4
          simp only [Result.andThen,Pure.pure,Sem.run,Result.ok.injEq,Prod.mk.injEq] at h4
          obtain ⟨⟨rfl,rfl⟩,rfl⟩:=h4
          refine .inl ⟨rfl,(h3 _).trans ?_⟩
          simp only [opS]
          refine (Sem.run_bind' p _ _ w2).trans ?_
          rw [hcm]
          simp only [Result.andThen,Pure.pure,Sem.run,hfin]; rfl
       | _ => simp [opS,stuck,Sem.run] at h2
    ·rw [if_neg hw] at h
     have hw' : ((ops[i]?).map (Region.wanted · (yielded ops tmps))).getD false = false:=by simpa using hw
     simp only [hw',Bool.false_eq_true,if_false]
     simp only [Pure.pure,Sem.run,Result.ok.injEq,Prod.mk.injEq] at h
     obtain ⟨⟨rfl,rfl⟩,rfl⟩:=h
     refine .inl ⟨rfl,?_⟩
     simp only [Pure.pure,Sem.run,hfin]; rfl
  | _ =>
   first
    | (simp [stuck,Sem.run] at h; done)
    | (
      simp only [Pure.pure,Sem.run,Result.ok.injEq,Prod.mk.injEq] at h
      obtain ⟨⟨rfl,rfl⟩,rfl⟩:=h
      exact .inl ⟨rfl,rfl⟩)
def appS (k : List Item) (b : List Fm) : Fm -> List Fm -> Fm × List Fm
 | m,[] => (m.app k,b)
 | m,c :: cs => (m,(appS k b c cs).1 :: (appS k b c cs).2)
theorem stepS_app {k : List Item} {b : List Fm} {m m1 : Fm} {ms ms1 : List Fm} {w w1 : World} (h : (stepS p m ms).run p w = .ok (m1,ms1) w1) (hne : ms = [] -> m.ret = false -> m.todo ≠ []) :
  (stepS p (appS k b m ms).1 (appS k b m ms).2).run p w = .ok (appS k b m1 ms1) w1:=by
 cases ms with
 | nil =>
  simp only [appS]
  cases hr : m.ret with
  | true => simp [stepS,hr,retS,stuck,Sem.run] at h
  | false =>
   have hr' : (m.app k).ret = false:=hr
   simp only [stepS,hr,Bool.false_eq_true,if_false] at h
   simp only [stepS,hr',Bool.false_eq_true,if_false]
   rcases runS_app (ms':=b) k (hne rfl hr) h with ⟨rfl,e⟩ | ⟨rfl,e⟩
   ·exact e
   ·exact e
 | cons c cs =>
  simp only [appS]
  cases hr : m.ret with
  | true =>
   simp only [stepS,hr,if_true] at h ⊢
   obtain ⟨ops,i,r,k0,v,fn,hc,hf,hv,rfl,rfl⟩:=retS_inv h
   cases ms1 with
   | nil =>
    simp only [appS]
    have hc' : (c.app k).todo = .inRegion ops (i :: r) :: (k0 ++ k):=by simp [Fm.app,hc]
    have:=(retS_mk (rest:=b) hc' hf hv).1
    rw [Fm.fin_app] at this
    exact this
   | cons d ds => exact (retS_mk hc hf hv).1
  | false =>
   simp only [stepS,hr,Bool.false_eq_true,if_false] at h ⊢
   by_cases htd : m.todo = []
   ·simp only [runS,htd,Pure.pure,Sem.run,Result.ok.injEq,Prod.mk.injEq] at h ⊢
    obtain ⟨⟨rfl,rfl⟩,rfl⟩:=h
    exact ⟨rfl,rfl⟩
   ·rcases runS_app (ms':=(appS k b c cs).1 :: (appS k b c cs).2) [] htd h with ⟨rfl,e⟩ | ⟨rfl,e⟩
    ·simp only [Fm.app_nil] at e
     exact e
    ·simp only [Fm.app_nil] at e
     exact e
theorem runS_ret {m x : Fm} {ms ys : List Fm} {w w1 : World} (h : (runS p m ms).run p w = .ok (x,ys) w1) (hx : x.ret = true) (hr : m.ret = false) (hne : m.todo ≠ []) : x.todo ≠ []:=by
 obtain ⟨fn,tmps,todo,ret⟩:=m
 simp only at hne hr
 subst hr
 unfold runS at h
 simp only at h
 split at h
 all_goals first
  | (simp [stuck,Sem.run] at h; done)
  | (
    simp only [Pure.pure,Sem.run,Result.ok.injEq,Prod.mk.injEq] at h
    obtain ⟨⟨rfl,rfl⟩,rfl⟩:=h
    first | exact hne | (simp at hx; done) | exact Bool.noConfusion hx)
  | skip
 case h_8 _ c a b k =>
  split at h
  ·simp only [Pure.pure,Sem.run,Result.ok.injEq,Prod.mk.injEq] at h
   obtain ⟨⟨rfl,rfl⟩,rfl⟩:=h
   cases hx
  ·simp [stuck,Sem.run] at h
 case h_13 _ id k =>
  split at h
  ·simp only [Pure.pure,Sem.run,Result.ok.injEq,Prod.mk.injEq] at h
   obtain ⟨⟨rfl,rfl⟩,rfl⟩:=h
   cases hx
  ·simp [stuck,Sem.run] at h
 case h_14 _ id ops draw k =>
  cases draw with
  | true =>
   simp only [if_true] at h
   have h2:=(Sem.run_bind' p (choose (.order fn id)) _ w).symm.trans h
   cases hc : (choose (.order fn id)).run p w with
   | ok t w2 =>
    rw [hc] at h2
    simp only [Result.andThen,Pure.pure,Sem.run,Result.ok.injEq,Prod.mk.injEq] at h2
    obtain ⟨⟨rfl,rfl⟩,rfl⟩:=h2
    cases hx
   | halt y w2 => rw [hc] at h2; cases h2
  | false =>
   simp only [Bool.false_eq_true,if_false,Pure.pure,Sem.run,Result.ok.injEq,Prod.mk.injEq] at h
   obtain ⟨⟨rfl,rfl⟩,rfl⟩:=h
   cases hx
 case h_16 _ ops i rest k =>
  split at h
  ·split at h
   ·next o ho =>
    have h2:=(Sem.run_bind' p _ _ w).symm.trans h
    cases hc : (execOp (Fm.eval { fn:=fn,tmps:=tmps,todo:=Item.inRegion ops (i :: rest) :: k,ret:=false }) o).run p w with
    | halt y w2 => rw [hc] at h2; cases h2
    | ok n w2 =>
     rw [hc] at h2
     simp only [Result.andThen] at h2
     cases n with
     | value v =>
      simp only [opS,Pure.pure,Sem.run,Result.ok.injEq,Prod.mk.injEq] at h2
      obtain ⟨⟨rfl,rfl⟩,rfl⟩:=h2
      cases hx
     | skip =>
      simp only [opS,Pure.pure,Sem.run,Result.ok.injEq,Prod.mk.injEq] at h2
      obtain ⟨⟨rfl,rfl⟩,rfl⟩:=h2
      cases hx
     | enter f args =>
      simp only [opS] at h2
      split at h2
      ·split at h2
       ·simp only [Pure.pure,Sem.run,Result.ok.injEq,Prod.mk.injEq] at h2
        obtain ⟨⟨rfl,rfl⟩,rfl⟩:=h2
        cases hx
       ·simp [stuck,Sem.run] at h2
      ·simp [stuck,Sem.run] at h2
     | comm cs b sh =>
      cases b with
      | true => simp [opS,stuck,Sem.run] at h2
      | false =>
       simp only [opS] at h2
       have h4:=(Sem.run_bind' p _ _ w2).symm.trans h2
       cases hcm : (commS cs sh).run p w2 with
       | halt y w3 => rw [hcm] at h4; cases h4
       | ok v w3 =>
        rw [hcm] at h4
        simp only [Result.andThen,Pure.pure,Sem.run,Result.ok.injEq,Prod.mk.injEq] at h4
        obtain ⟨⟨rfl,rfl⟩,rfl⟩:=h4
        cases hx
     | _ => simp [opS,stuck,Sem.run] at h2
   ·simp [stuck,Sem.run] at h
  ·simp only [Pure.pure,Sem.run,Result.ok.injEq,Prod.mk.injEq] at h
   obtain ⟨⟨rfl,rfl⟩,rfl⟩:=h
   cases hx
theorem runS_fn {m x : Fm} {ms ys : List Fm} {w w1 : World} (h : (runS p m ms).run p w = .ok (x,ys) w1) : (ys = ms /\ x.fn = m.fn) \/ ys = m :: ms:=by
 obtain ⟨fn,tmps,todo,ret⟩:=m
 unfold runS at h
 simp only at h
 split at h
 all_goals first
  | (simp [stuck,Sem.run] at h; done)
  | (
    simp only [Pure.pure,Sem.run,Result.ok.injEq,Prod.mk.injEq] at h
    obtain ⟨⟨rfl,rfl⟩,rfl⟩:=h
    exact .inl ⟨rfl,rfl⟩)
  | skip
 case h_8 _ c a b k =>
  split at h
  ·simp only [Pure.pure,Sem.run,Result.ok.injEq,Prod.mk.injEq] at h
   obtain ⟨⟨rfl,rfl⟩,rfl⟩:=h
   exact .inl ⟨rfl,rfl⟩
  ·simp [stuck,Sem.run] at h
 case h_13 _ id k =>
  split at h
  ·simp only [Pure.pure,Sem.run,Result.ok.injEq,Prod.mk.injEq] at h
   obtain ⟨⟨rfl,rfl⟩,rfl⟩:=h
   exact .inl ⟨rfl,rfl⟩
  ·simp [stuck,Sem.run] at h
 case h_14 _ id ops draw k =>
  cases draw with
  | true =>
   simp only [if_true] at h
   have h2:=(Sem.run_bind' p (choose (.order fn id)) _ w).symm.trans h
   cases hc : (choose (.order fn id)).run p w with
   | ok t w2 =>
    rw [hc] at h2
    simp only [Result.andThen,Pure.pure,Sem.run,Result.ok.injEq,Prod.mk.injEq] at h2
    obtain ⟨⟨rfl,rfl⟩,rfl⟩:=h2
    exact .inl ⟨rfl,rfl⟩
   | halt y w2 => rw [hc] at h2; cases h2
  | false =>
   simp only [Bool.false_eq_true,if_false,Pure.pure,Sem.run,Result.ok.injEq,Prod.mk.injEq] at h
   obtain ⟨⟨rfl,rfl⟩,rfl⟩:=h
   exact .inl ⟨rfl,rfl⟩
 case h_16 _ ops i rest k =>
  split at h
  ·split at h
   ·next o ho =>
    have h2:=(Sem.run_bind' p _ _ w).symm.trans h
    cases hc : (execOp (Fm.eval { fn:=fn,tmps:=tmps,todo:=Item.inRegion ops (i :: rest) :: k,ret:=ret }) o).run p w with
    | halt y w2 => rw [hc] at h2; cases h2
    | ok n w2 =>
     rw [hc] at h2
     simp only [Result.andThen] at h2
     cases n with
     | value v =>
      simp only [opS,Pure.pure,Sem.run,Result.ok.injEq,Prod.mk.injEq] at h2
      obtain ⟨⟨rfl,rfl⟩,rfl⟩:=h2
      exact .inl ⟨rfl,rfl⟩
     | skip =>
      simp only [opS,Pure.pure,Sem.run,Result.ok.injEq,Prod.mk.injEq] at h2
      obtain ⟨⟨rfl,rfl⟩,rfl⟩:=h2
      exact .inl ⟨rfl,rfl⟩
     | enter f args =>
      simp only [opS] at h2
      split at h2
      ·split at h2
       ·simp only [Pure.pure,Sem.run,Result.ok.injEq,Prod.mk.injEq] at h2
        obtain ⟨⟨rfl,rfl⟩,rfl⟩:=h2
        exact .inr rfl
       ·simp [stuck,Sem.run] at h2
      ·simp [stuck,Sem.run] at h2
     | comm cs b sh =>
      cases b with
      | true => simp [opS,stuck,Sem.run] at h2
      | false =>
       simp only [opS] at h2
       have h4:=(Sem.run_bind' p _ _ w2).symm.trans h2
       cases hcm : (commS cs sh).run p w2 with
       | halt y w3 => rw [hcm] at h4; cases h4
       | ok v w3 =>
        rw [hcm] at h4
        simp only [Result.andThen,Pure.pure,Sem.run,Result.ok.injEq,Prod.mk.injEq] at h4
        obtain ⟨⟨rfl,rfl⟩,rfl⟩:=h4
        exact .inl ⟨rfl,rfl⟩
     | _ => simp [opS,stuck,Sem.run] at h2
   ·simp [stuck,Sem.run] at h
  ·simp only [Pure.pure,Sem.run,Result.ok.injEq,Prod.mk.injEq] at h
   obtain ⟨⟨rfl,rfl⟩,rfl⟩:=h
   exact .inl ⟨rfl,rfl⟩
def lastFn : Fm -> List Fm -> FuncId
 | m,[] => m.fn
 | _,c :: cs => lastFn c cs
theorem stepS_lastFn {m m1 : Fm} {ms ms1 : List Fm} {w w1 : World} (h : (stepS p m ms).run p w = .ok (m1,ms1) w1) : lastFn m1 ms1 = lastFn m ms:=by
 cases hr : m.ret with
 | true =>
  simp only [stepS,hr,if_true] at h
  cases ms with
  | nil => simp [retS,stuck,Sem.run] at h
  | cons c cs =>
   obtain ⟨ops,i,r,k0,v,fn,hc,hf,hv,rfl,rfl⟩:=retS_inv h
   cases ms1 <;> rfl
 | false =>
  simp only [stepS,hr,Bool.false_eq_true,if_false] at h
  rcases runS_fn h with ⟨rfl,e⟩ | rfl
  ·cases ms1 with
   | nil => exact e
   | cons c cs => rfl
  ·rfl
theorem LT.ret_inv {Q : Fm -> World -> Prop} {m : Fm} {w : World} (hr : m.ret = true) (h : LT p Q m [] w) : Q m w:=by
 generalize hms : ([] : List Fm) = ms at h
 cases h with
 | stop _ hq => exact hq
 | step nx hs hrun _ => subst hms; exact absurd rfl (hs hr)
theorem LT.app {P₁ : Pair} {fs₁ : FuncId -> Bool} {K₁ : Pr} {G₁ : Gp} {St₁ : Nat -> Prop} (F₁ : Fit3 P₁ fs₁) (hG₁ : G₁ = P₁.gp) {Q : Fm -> World -> Prop} {N : Fm -> Prop} {Stop : Fm -> List Fm -> World -> Prop} (k : List Item) (b : List Fm) {fn0 : FuncId}
  (hN : ∀ m R y,FmR P₁ fs₁ K₁ R m y -> N m) (hN0 : ∀ m : Fm,m.fn = fn0 -> N m)
  (hn : ∀ (x : Fm) (w : World),x.fn = fn0 -> x.ret = false -> x.todo = [] -> (∀ T,Q { x with ret:=true } (tp w T 0)) -> Stop (x.app k) b w)
  (hr : ∀ (x : Fm) (w : World),x.fn = fn0 -> x.ret = true -> x.todo ≠ [] -> Q x w -> Stop (x.app k) b w) {m : Fm} {ms : List Fm} {w : World} (h : LT P₁.g Q m ms w) :
  lastFn m ms = fn0 -> RelS P₁ fs₁ K₁ G₁ St₁ m ms w -> (ms = [] -> m.ret = true -> m.todo ≠ []) -> LTs P₁.g N Stop (appS k b m ms).1 (appS k b m ms).2 w:=by
 induction h with
 | stop h1 h2 => intro hl _ hz; exact .stop (hr _ _ hl h1 (hz rfl h1) h2)
 | step nx hs hrun hlt ih =>
  rename_i m ms w
  intro hl hrel hz
  by_cases hend : ms = [] /\ m.ret = false /\ m.todo = []
  ·obtain ⟨rfl,h1,h2⟩:=hend
   refine .stop (hn m w hl h1 h2 λ T => ?_)
   have hT:=hrun T
   have e : (stepS P₁.g m []).run P₁.g (tp w T 0) = .ok ({ m with ret:=true },[]) (tp w T 0):=by simp [stepS,h1,runS,h2,Pure.pure,Sem.run]
   rw [e] at hT
   injection hT with e1 e2
   have hl:=hlt T
   rw [<- e1,<- e2] at hl
   exact hl.ret_inv rfl
  ·have hne : ms = [] -> m.ret = false -> m.todo ≠ []:=λ a b c => hend ⟨a,b,c⟩
   have hlf : ∀ T,lastFn (nx T).1.1 (nx T).1.2 = fn0:=λ T => (stepS_lastFn (m1:=(nx T).1.1) (ms1:=(nx T).1.2) (hrun T)).trans hl
   have hch : ∀ T,RelS P₁ fs₁ K₁ G₁ St₁ (nx T).1.1 (nx T).1.2 (nx T).2:=λ T => RelS.next (T:=T) (e:=0) F₁ hG₁ hrel hs (hrun T)
   refine .step (λ T => (appS k b (nx T).1.1 (nx T).1.2,(nx T).2)) (λ e => ?_) (λ T => stepS_app (hrun T) hne) (λ T => ?_) (λ T => ih T (hlf T) (hch T) λ e1 e2 e3 => ?_)
   ·cases ms with
    | nil => exact absurd rfl (hs e)
    | cons c cs => simp [appS]
   ·-- the top frame
    show N (appS k b (nx T).1.1 (nx T).1.2).1
    cases hms : (nx T).1.2 with
    | nil => exact hN0 _ (by have:=hlf T; rw [hms] at this; exact this)
    | cons c cs =>
     obtain ⟨R,W,m',ms',_,hm,_⟩:=hch T
     exact hN _ R m' hm
   have hT:=hrun T
   cases ms with
   | nil =>
    cases hr1 : m.ret with
    | true => exact hs hr1 rfl
    | false =>
     simp only [stepS,hr1,Bool.false_eq_true,if_false] at hT
     exact runS_ret hT e2 hr1 (hne rfl hr1) e3
   | cons c cs =>
    cases hr1 : m.ret with
    | true =>
     simp only [stepS,hr1,if_true] at hT
     obtain ⟨ops,i,r,k0,v,fn,hc,hf,hv,h1,h2⟩:=retS_inv (m1:=(nx T).1.1) (ms1:=(nx T).1.2) hT
     rw [h1] at e3
     simp [Fm.fin] at e3
    | false =>
     simp only [stepS,hr1,Bool.false_eq_true,if_false] at hT
     rcases runS_fn hT with ⟨e,_⟩ | e
     ·rw [e1] at e; cases e
     ·rw [e1] at e; cases e
end
end Go.Tt
namespace Go.Mt
open Go.Conc
open Go.ConcR (KK wgBlock WgAt stA smA rd wr)
section
variable {L : Type} {P : Program} {ty : TypeId} {Wg : Nat} {A : Proto L} {Fin : Goroutine -> World -> Prop}
variable {K K' : Bool -> Ph L -> Nat -> Terr -> Goroutine -> World -> Prop}
theorem Way1.mono (hK : ∀ m ph d τ g w,K m ph d τ g w -> K' m ph d τ g w) {main : Bool} {ph : Ph L} {d : Nat} {τ : Terr} {g : Goroutine} {w : World} (h : Way1 P ty Wg K main ph d τ g w) : Way1 P ty Wg K' main ph d τ g w:=by
 have own : ∀ {ph : Ph L},Own1 P ty Wg K main ph d τ g w -> Own1 P ty Wg K' main ph d τ g w:=λ h w₁ s => by
  rcases h w₁ s with ⟨g',w',es,h1,h2,h3,h4,h5⟩ | ⟨cs,sh,v,wm,w',es,h1,h2,h3,h4,h5,h6,h7⟩
  ·exact .inl ⟨g',w',es,h1,h2,h3,h4,hK _ _ _ _ _ _ h5⟩
  ·exact .inr ⟨cs,sh,v,wm,w',es,h1,h2,h3,h4,h5,h6,hK _ _ _ _ _ _ h7⟩
 have idle : ∀ {ph : Ph L},Idle1 P ty Wg K main ph d τ g w -> Idle1 P ty Wg K' main ph d τ g w:=λ h w₁ s => by
  obtain ⟨g',es,h1,h2,h3,h4⟩:=h w₁ s
  exact ⟨g',es,h1,h2,h3,hK _ _ _ _ _ _ h4⟩
 cases ph <;> first | exact h | exact own h | exact idle h
theorem AtUsr.mono (hK : ∀ m ph d τ g w,K m ph d τ g w -> K' m ph d τ g w) {main : Bool} {l : L} {d : Nat} {τ : Terr} {g : Goroutine} {w : World} (h : AtUsr P ty Wg A K main l d τ g w) : AtUsr P ty Wg A K' main l d τ g w:=by
 unfold AtUsr at *
 split
 all_goals (rename_i e; simp only [e] at h)
 ·obtain ⟨ho,v,z,τ',h1,h2,h3,h4,h4',h5,h6⟩:=h
  exact ⟨ho,v,z,τ',h1,h2,h3,h4,h4',h5,hK _ _ _ _ _ _ h6⟩
 ·obtain ⟨ho,z,b,h1,h2,h3⟩:=h
  exact ⟨ho,z,b,h1,λ v hv => hK _ _ _ _ _ _ (h2 v hv),λ x => hK _ _ _ _ _ _ (h3 x)⟩
 ·refine ⟨h.1,h.2.1,λ w₁ s₁ s r hc => ?_⟩
  obtain ⟨g',h1,h2,h3⟩:=h.2.2 w₁ s₁ s r hc
  exact ⟨g',h1,h2,hK _ _ _ _ _ _ h3⟩
 ·intro w₁ s₁ v hv hw
  obtain ⟨g',h1,h2,h3⟩:=h w₁ s₁ v hv hw
  exact ⟨g',h1,h2,hK _ _ _ _ _ _ h3⟩
 ·refine ⟨h.1,λ w₁ s₁ => ?_⟩
  obtain ⟨g',child,τm,τc,h1,h2,h3,h4,h5,h6,h7,h8,h9,h10,h11⟩:=h.2 w₁ s₁
  exact ⟨g',child,τm,τc,h1,h2,h3,h4,h5,h6,h7,h8,h9,hK _ _ _ _ _ _ h10,hK _ _ _ _ _ _ h11⟩
 ·refine ⟨h.1,h.2.1,h.2.2.1,λ w₁ s₁ => ?_⟩
  obtain ⟨g',h1,h2,h3⟩:=h.2.2.2 w₁ s₁
  exact ⟨g',h1,h2,hK _ _ _ _ _ _ h3⟩
 ·intro w₁ s₁ v hv hw
  obtain ⟨g',h1,h2,h3,h4⟩:=h w₁ s₁ v hv hw
  exact ⟨g',h1,h2,λ x => hK _ _ _ _ _ _ (h3 x),λ x => hK _ _ _ _ _ _ (h4 x)⟩
theorem AtPh.mono (hK : ∀ m ph d τ g w,K m ph d τ g w -> K' m ph d τ g w) {main : Bool} {ph : Ph L} {d : Nat} {τ : Terr} {g : Goroutine} {w : World} (h : AtPh P ty Wg A Fin K main ph d τ g w) : AtPh P ty Wg A Fin K' main ph d τ g w:=by
 cases ph with
 | gone => exact h
 | quit l => exact h
 | usr l => exact AtUsr.mono hK h
 | rel l =>
  intro w₁ s₁ v wt a b c
  obtain ⟨g',h1,h2,h3,h4,h5⟩:=h w₁ s₁ v wt a b c
  exact ⟨g',h1,h2,h3,λ x => hK _ _ _ _ _ _ (h4 x),h5⟩
 | l1 l =>
  intro w₁ s₁ a
  obtain ⟨g',h1,h2,h3,h4⟩:=h w₁ s₁ a
  exact ⟨g',h1,h2,h3,hK _ _ _ _ _ _ h4⟩
 | l2 l =>
  intro w₁ s₁ a
  obtain ⟨g',h1,h2,h3,h4⟩:=h w₁ s₁ a
  exact ⟨g',h1,h2,h3,hK _ _ _ _ _ _ h4⟩
 | l3 l => exact h
 | w1 b =>
  intro w₁ s₁ v hvb hv hw
  obtain ⟨g',h1,h2,h3,h4⟩:=h w₁ s₁ v hvb hv hw
  exact ⟨g',h1,h2,λ x => hK _ _ _ _ _ _ (h3 x),λ x => hK _ _ _ _ _ _ (h4 x)⟩
 | w2 vs =>
  intro w₁ s₁ v hv hw
  obtain ⟨h1,h2⟩:=h w₁ s₁ v hv hw
  exact ⟨λ e => let ⟨g',a,b,c⟩:=h1 e; ⟨g',a,b,hK _ _ _ _ _ _ c⟩,λ e => let ⟨g',a,b,c⟩:=h2 e; ⟨g',a,b,hK _ _ _ _ _ _ c⟩⟩
 | w3 =>
  refine ⟨h.1,λ w₁ s₁ => ⟨(h.2 w₁ s₁).1,λ e => ?_⟩⟩
  obtain ⟨g',a,b,c⟩:=(h.2 w₁ s₁).2 e
  exact ⟨g',a,b,hK _ _ _ _ _ _ c⟩
 | w4 =>
  intro w₁ s₁ a
  obtain ⟨g',h1,h2,h3⟩:=h w₁ s₁ a
  exact ⟨g',h1,h2,hK _ _ _ _ _ _ h3⟩
 | w5 => exact h
def BehE (P : Program) (ty : TypeId) (Wg : Nat) (A : Proto L) (Fin : Goroutine -> World -> Prop) (main : Bool) (ph : Ph L) (d : Nat) (τ : Terr) (g : Goroutine) (w : World) : Prop:=∃ r,Beh P ty Wg A Fin r main ph d τ g w
variable {main : Bool} {ph : Ph L} {d : Nat} {τ : Terr} {g : Goroutine} {w w₁ : World}
theorem BehE.mk (hrun : g.status = .running) (h : Way1 P ty Wg (BehE P ty Wg A Fin) main ph d τ g w \/ AtPh P ty Wg A Fin (BehE P ty Wg A Fin) main ph d τ g w) : BehE P ty Wg A Fin main ph d τ g w:=by
 let ι:={ x : Bool × Ph L × Nat × Terr × Goroutine × World // BehE P ty Wg A Fin x.1 x.2.1 x.2.2.1 x.2.2.2.1 x.2.2.2.2.1 x.2.2.2.2.2 }
 let f : ι -> Rk:=λ x => x.2.choose
 have hK : ∀ m ph d τ g w,BehE P ty Wg A Fin m ph d τ g w -> ∃ i,Beh P ty Wg A Fin (f i) m ph d τ g w:=λ m ph d τ g w hb => ⟨⟨(m,ph,d,τ,g,w),hb⟩,hb.choose_spec⟩
 exact ⟨.mk ι f,hrun,h.imp (λ x => x.mono hK) λ x => x.mono hK⟩
theorem BehE.ownC (hrun : g.status = .running) (hl : ph.live) (h : Own1 P ty Wg (BehE P ty Wg A Fin) main ph d τ g w) : BehE P ty Wg A Fin main ph d τ g w:=
 .mk hrun (.inl (by cases ph <;> first | exact h | exact hl.elim))
theorem BehE.own (hrun : g.status = .running) (hl : ph.live) (h : OwnG P ty Wg (BehE P ty Wg A Fin) main ph d τ g w) : BehE P ty Wg A Fin main ph d τ g w:=
 .ownC hrun hl λ w₁ s => .inl (h w₁ s)
theorem BehE.usr {l : L} (hrun : g.status = .running) (h : AtUsr P ty Wg A (BehE P ty Wg A Fin) main l d τ g w) : BehE P ty Wg A Fin main (.usr l) d τ g w:=.mk hrun (.inr h)
structure Start (P : Program) (ty : TypeId) (Wg : Nat) (A : Proto L) (Fin : Goroutine -> World -> Prop) (Shun : Loc -> Prop) (gs : Array Goroutine) (w : World) (t : Trace) (q : Nat -> Nat) (l : L) (τ : Terr) (a : Goroutine) (B : Nat) : Prop where
 main : gs[0]? = some a
 leave : Leavers P t gs q
 past : Past Shun B t
 beh : BehE P ty Wg A Fin true (.usr l) 0 τ a w
 grp : WgAt ty Wg w 0 0
 low : B <= Wg /\ B <= w.heap.size
 bnd : ∀ b,τ.own b \/ τ.still b \/ τ.pass b -> b < w.heap.size /\ b ≠ Wg /\ ∀ l,onB l b -> ¬ Shun l
 pend : A.pend l = false
 inv : A.Inv (λ i => if i = 0 then .run l else .gone) (λ _ => none)
theorem phase (hA : A.Ok) {Shun : Loc -> Prop} {gs : Array Goroutine} {t : Trace} {q : Nat -> Nat} {l : L} {a : Goroutine} {B : Nat} (S : Start P ty Wg A Fin Shun gs w t q l τ a B) (sl : Option (Nat × Nat)) :
  ∃ N m' t',runNT P N (crowd gs w sl) t = (.next m',t') /\ Goal P Wg Fin Shun m' t':=by
 obtain ⟨r,hr⟩:=S.beh
 have h0 : 0 < gs.size:=(Array.getElem?_eq_some_iff.1 S.main).1
 let none' : Terr:=⟨λ _ => False,λ _ => False,λ _ => False⟩
 let T : Nat -> Td L:=λ i => if i = 0 then ⟨.usr l,.inr r,τ,a⟩ else ⟨.gone,.inl (q i),none',default⟩
 have t0 : T 0 = ⟨.usr l,.inr r,τ,a⟩:=by simp [T]
 have tn : ∀ i,i ≠ 0 -> T i = ⟨.gone,.inl (q i),none',default⟩:=λ i hi => by simp [T,hi]
 have hrun : a.status = .running:=by cases r with | mk ι f => exact hr.1
 have hcnt : cnt (λ i => (T i).ph) gs.size = 0:=cnt_zero (λ j hj => by simp only [tn j hj,Ph.pre]) _
 have hvv : vv A (λ i => (T i).ph) gs.size = 0:=by
  unfold vv pnd; rw [hcnt]; simp only [t0,S.pend]; rfl
 have hpr : (λ i => (T i).ph.proj) = λ i => if i = 0 then .run l else .gone:=by
  funext i
  by_cases hi : i = 0
  ·subst hi; rw [t0]; rfl
  ·rw [tn i hi,if_neg hi]; rfl
 refine phase_run (ty:=ty) hA (T:=T) (ch:=λ _ => none) (Shun:=Shun) ⟨⟨h0,λ i hi => (by rw [tn i (by omega)]),(by rw [t0]; trivial),λ i hi => (by rw [tn i hi]; exact id),λ i hi b => ?_,λ i j b hij hb => ?_,λ i b hb => ?_,λ i b hb => ?_,λ i l' hi => ?_,λ c b hc => (by cases hc),?_,(by rw [hpr]; exact S.inv)⟩,
  ⟨λ i x hi => ?_,λ i j gi gj c v z z' sh sh' hi hj => ?_,λ i gi c z sh hi e => (by cases e),λ x hx hp => (by rw [t0] at hp; cases hp),?_⟩⟩ sl
 ·by_cases h : i = 0
  ·subst h; rw [t0] at hi; cases hi
  ·rw [tn i h]; exact ⟨id,id,id⟩
 ·by_cases h : i = 0
  ·subst h
   rw [tn j (Ne.symm hij)]; exact ⟨id,id,id⟩
  ·rw [tn i h] at hb; exact hb.elim
 ·by_cases h : i = 0
  ·subst h
   rw [t0] at hb
   have:=S.bnd b (hb.imp id .inl)
   exact ⟨this.1,this.2.1,rfl⟩
  ·rw [tn i h] at hb; exact hb.elim False.elim False.elim
 ·by_cases h : i = 0
  ·subst h
   rw [t0] at hb
   have:=S.bnd b (.inr (.inr hb))
   exact ⟨this.1,this.2.1⟩
  ·rw [tn i h] at hb; exact hb.elim
 ·by_cases h : i = 0
  ·subst h; rw [t0] at hi; cases hi
  ·rw [tn i h] at hi; cases hi
 ·unfold Grp
  simp only [t0]
  refine ⟨by rw [hvv]; simpa using S.grp,λ i e => ?_⟩
  by_cases h : i = 0
  ·subst h; rw [t0] at e; exact e
  ·rw [tn i h] at e; exact e
 ·by_cases h : i = 0
  ·subst h
   rw [S.main] at hi; cases hi
   refine (sits_stays (by rw [t0]; exact id)).2 ⟨r,by rw [t0],?_,.inl (by rw [t0]; exact Awake.self hrun)⟩
   have hd : Deaf t 0 = 0:=S.past.hears
   rw [t0,hd]; exact hr
  ·refine (sits_leaves (by rw [tn i h]; trivial)).2 ⟨q i,by rw [tn i h],S.leave.old i x (by omega) hi⟩
 ·exfalso
  by_cases h : i = 0
  ·subst h
   rw [S.main] at hi; cases hi
   simp [parked] at hrun
  ·have:=(S.leave.old i _ (by omega) hi).status
   simp [parked] at this
 ·refine TI.begin S.past S.low.2 S.leave.above (λ j => ?_) (λ b hb => ?_) S.low.1
  ·by_cases h : j = 0
   ·subst h; rw [t0]; exact ⟨λ _ => rfl,λ _ => trivial⟩
   ·rw [tn j h]; exact ⟨λ e => e.elim,λ e => absurd e h⟩
  ·rw [t0] at hb
   exact (S.bnd b hb).2.2
end
end Go.Mt
namespace Go.Mt
open Go.Conc Go.Tt
open Go.ConcR (KK wgBlock WgAt stA smA rd wr)
def Terra (τ : Terr) (R : Pr) (St : Nat -> Prop) : Prop:=∀ a b,R a b -> (St a -> τ.still b) /\ (¬ St a -> τ.own b)
section
variable {L : Type} {P : Pair} {fs : FuncId -> Bool} {K : Pr} {G' : Gp} {St : Nat -> Prop} {ty : TypeId} {Wg : Nat} {A : Proto L} {Fin : Goroutine -> World -> Prop}
theorem wrel_suf {S : FuncId -> Prop} {R : Pr} {w W W₁ : World} {τ : Terr} (h : WRel S K R G' St w W) (ht : Terra τ R St) (hK : ∀ a b,K a b -> b < W.heap.size) (s : Suf ty Wg τ W W₁) : WRel S K R G' St w W₁:=by
 refine ⟨h.inj,h.inj',λ a b x => ⟨(h.lt a b x).1,Nat.lt_of_lt_of_le (h.lt a b x).2 s.size⟩,h.low,⟨h.gle.1,Nat.le_trans h.gle.2 s.size⟩,λ a b x => ?_,h.rest,h.st,h.np,h.tb⟩
 obtain ⟨o,o',h1,h2,h3⟩:=h.cont a b x
 refine ⟨o,o',h1,?_,h3⟩
 rw [s.keep b ?_]; exact h2
 by_cases hs : St a
 ·exact .inr ((ht a b x).1 hs)
 ·exact .inl ((ht a b x).2 hs)
end
end Go.Mt
namespace Go.Mt
open Go.Conc Go.Tt
open Go.ConcN (sumTo sumTo_upd upd_ne upd_same)
open Go.ConcR (KK wgBlock WgAt stA smA rd wr)
def Ends (P : Program) (Post : Value -> World -> Prop) (m : Machine) (t : Trace) : Prop:=
 ∃ M last o w' t',runNT P (M + 1) m t = (.ended o w',t') /\ runN P M m = .next last /\ step P last = .ended o w' /\ Conc.Good P Post last o w' t'
section
variable {P : Program} {Post : Value -> World -> Prop}
theorem Ends.step {m m' : Machine} {t : Trace} {ops : Array MemOp} (h : stepT P m = (.next m',ops)) (he : Ends P Post m' (t ++ ops)) : Ends P Post m t:=by
 obtain ⟨M,last,o,w',t',h1,h2,h3,h4⟩:=he
 refine ⟨M + 1,last,o,w',t',?_,?_,h3,h4⟩
 ·rw [runNT,h]; exact h1
 ·have : Go.step P m = .next m':=by rw [Go.step,h]
  rw [runN_next this]; exact h2
theorem Ends.run : ∀ (N : Nat) {m m' : Machine} {t t' : Trace},runNT P N m t = (.next m',t') -> Ends P Post m' t' -> Ends P Post m t:=by
 intro N
 induction N with
 | zero =>
  intro m m' t t' h he
  simp only [runNT,Prod.mk.injEq,Stepped.next.injEq] at h
  obtain ⟨rfl,rfl⟩:=h
  exact he
 | succ N ih =>
  intro m m' t t' h he
  rw [runNT] at h
  generalize hs : stepT P m = s at h
  obtain ⟨s,ops⟩:=s
  cases s with
  | next m1 => exact Ends.step hs (ih h he)
  | ended o w => simp at h
variable (P Post)
def J (Shun : Loc -> Prop) (B : Nat) (g : Goroutine) (w : World) : Prop:=
 ∀ (gs : Array Goroutine) (t : Trace) (sl : Option (Nat × Nat)) (q : Nat -> Nat),gs[0]? = some g -> Leavers P t gs q -> Past Shun B t -> Ends P Post (crowd gs w sl) t
variable {P Post}
theorem J.ownC {Shun : Loc -> Prop} {B : Nat} {g : Goroutine} {w : World} (hrun : g.status = .running)
  (h : ∀ d,(∃ g' w' es B',stepG P true g (w.at d) = .go g' w' es /\ (∀ e ∈ es,EvL Shun B' e) /\ B <= B' /\ J P Post Shun B' g' w') \/
   ∃ cs sh v wm w' es B',stepG P true g (w.at d) = .comm g cs false sh wm es /\ (commS cs sh).run P wm = .ok v w' /\ (∀ e ∈ es,EvL Shun B' e) /\ B <= B' /\ wm.heap.size <= B' /\ J P Post Shun B' (Conc.served g v) w') : J P Post Shun B g w:=by
 have key : ∀ (M : Nat) (d : Nat) (gs : Array Goroutine) (t : Trace) (sl : Option (Nat × Nat)) (q : Nat -> Nat),sumTo gs.size q = M -> gs[0]? = some g -> Leavers P t gs q -> Past Shun B t -> Ends P Post (crowd gs (w.at d) sl) t:=by
  intro M
  induction M using Nat.strongRecOn with
  | ind M ih =>
  intro d gs t sl q hM h0 hL hP
  have haw : ∀ x ∈ gs,awake x:=by
   intro x hx
   obtain ⟨i,hi,rfl⟩:=Array.mem_iff_getElem.1 hx
   rcases Nat.eq_zero_or_pos i with rfl | hpos
   ·have : gs[0] = g:=by simpa [Array.getElem?_eq_getElem hi] using h0
    rw [this]; exact awake_of (.inl hrun)
   ·exact awake_of ((hL.old i _ hpos (Array.getElem?_eq_getElem hi)).status.elim .inl λ x => .inr (.inr x))
  obtain ⟨i,x,d',sl',hi,hx,hst⟩:=crowd_pick (P:=P) (w:=w.at d) (sl:=sl) haw ⟨0,g,h0,hrun⟩
  rw [show (w.at d).at d' = w.at d' from rfl] at hst
  rcases Nat.eq_zero_or_pos i with rfl | hpos
  ·obtain rfl : x = g:=by rw [h0] at hi; exact (Option.some.inj hi).symm
   rcases h d' with ⟨g',w',es,B',hgo,hes,hsz,hJ⟩ | ⟨cs,sh,v,wm,w',es,B',hgo,hcm,hes,hsz,hB,hJ⟩
   ·have hrunT:=runT_crowd_go (P:=P) (sl:=sl') (i:=0) hi (show stepG P (0 == 0) x (w.at d') = _ from hgo)
    have hlt : 0 < gs.size:=(Array.getElem?_eq_some_iff.1 h0).1
    refine Ends.step (hst.trans hrunT) (hJ _ _ _ q (by simp [hlt]) ⟨λ j y hj hy => ?_,λ j hj => ?_⟩ ((hP.mono hsz).own hes))
    ·have hne : 0 ≠ j:=by omega
     rw [Array.getElem?_setIfInBounds_ne hne,Array.getElem?_map] at hy
     obtain ⟨z,hz,rfl⟩:=Option.map_eq_some_iff.1 hy
     have hq:=hL.old j z hj hz
     rw [woken_quitsD hq,Deaf_other t (by omega) _ (λ op hop => by obtain ⟨e,_,rfl⟩:=Conc.mem_ofEvents hop; rfl)]
     exact hq
    ·rw [Deaf_other t (g':=0) (by simp at hj; omega) _ (λ op hop => by obtain ⟨e,_,rfl⟩:=Conc.mem_ofEvents hop; rfl)]
     exact hL.above j (by simpa using hj)
   ·have hlt : 0 < gs.size:=(Array.getElem?_eq_some_iff.1 h0).1
    have hnp : NoPartner (gs.setIfInBounds 0 Conc.ph) cs.toList:=by
     intro c hc r hcr b
     refine partners_nil λ k y hk => ?_
     rcases getElem?_stand gs 0 k y hk with ⟨_,rfl⟩ | ⟨hk0,hk'⟩
     ·rfl
     ·refine offersAt_of_not_blocked ?_ r b
      have:=(hL.old k y (by omega) hk').status
      rcases this with e | e <;> rw [e] <;> simp
    obtain ⟨ops,hcom,hops⟩:=communicate_own (rest:=(crowd gs (w.at d') sl').rest) (i:=0) (g:=x) hnp hcm
    have hrunT:=runT_crowd_comm (P:=P) (sl:=sl') (i:=0) hi (show stepG P (0 == 0) x (w.at d') = _ from hgo)
    have hcom' : communicate P (crowd gs (w.at d') sl').rest (gs.setIfInBounds 0 Conc.ph) 0 x cs false sh wm = (.next (crowd (gs.setIfInBounds 0 (Conc.served x v)) w' sl'),ops):=by
     rw [hcom]
     simp [Conc.served,crowd]
    rw [hcom'] at hrunT
    have hg0 : ∀ op ∈ MemOp.ofEvents 0 x.frame.fn x.frame.place es ++ ops,op.g = 0:=λ op hop => by
     rcases Array.mem_append.1 hop with hop | hop
     ·obtain ⟨e,_,rfl⟩:=Conc.mem_ofEvents hop; rfl
     ·exact (hops op hop).1
    have hquiet : ∀ op ∈ ops,op.act ≠ .mark .disable /\ op.act ≠ .mark .enable:=λ op hop => by
     have:=(hops op hop).2
     cases ha : op.act <;> rw [ha] at this <;> first | exact this.elim | exact ⟨by simp,by simp⟩
    have hP1:=(hP.mono hsz).own (fn:=x.frame.fn) (pos:=x.frame.place) hes
    have hP2 : Past Shun B' ((t ++ MemOp.ofEvents 0 x.frame.fn x.frame.place es) ++ ops):=by
     refine hP1.app0 (λ op hop => (hops op hop).1) (λ op hop b hb => ?_) (deaf_still _ _ _ hquiet) λ op hop => ?_
     ·have:=(hops op hop).2
      cases ha : op.act <;> rw [ha] at this hb <;> first | exact this.elim | cases hb
     ·have:=(hops op hop).2
      cases ha : op.act <;> rw [ha] at this <;> first | exact this.elim | exact Nat.lt_of_lt_of_le this hB
    rw [Array.append_assoc] at hP2
    refine Ends.step (hst.trans hrunT) (hJ _ _ _ q (by simp [hlt]) ⟨λ j y hj hy => ?_,λ j hj => ?_⟩ hP2)
    ·have hne : 0 ≠ j:=by omega
     rw [Array.getElem?_setIfInBounds_ne hne] at hy
     have hq:=hL.old j y hj hy
     rw [Deaf_other t (g':=0) (by omega) _ hg0]
     exact hq
    ·rw [Deaf_other t (g':=0) (by simp at hj; omega) _ hg0]
     exact hL.above j (by simpa using hj)
  ·have hq:=hL.old i x hpos hi
   have hi0 : (i == 0) = false:=by simp; omega
   have hlt : i < gs.size:=(Array.getElem?_eq_some_iff.1 hi).1
   cases hqi : q i with
   | zero => rw [hqi] at hq; rw [hq.1] at hx; cases hx
   | succ k =>
    rw [hqi] at hq
    rcases hq with ⟨hf,_⟩ | ⟨_,g',es,hm,hstp,hq'⟩
    ·rw [hf] at hx; cases hx
    have hrunT:=runT_crowd_go (P:=P) (sl:=sl') (i:=i) hi (by rw [hi0]; exact hstp (w.at d'))
    have hsz : ((gs.map (woken P x g' (w.at d'))).setIfInBounds i g').size = gs.size:=by simp
    have hsum : sumTo gs.size (ConcN.upd q i k) + (k + 1) = sumTo gs.size q + k:=by
     have:=sumTo_upd q k id hlt
     simp only [hqi,id] at this
     exact this
    refine Ends.step (hst.trans hrunT) (ih (sumTo gs.size (ConcN.upd q i k)) (by omega) d' _ _ _ (ConcN.upd q i k) (by rw [hsz]) ?_ ⟨λ j y hj hy => ?_,λ j hj => ?_⟩ (hP.mute (by omega) hm))
    ·have hne : i ≠ 0:=by omega
     rw [Array.getElem?_setIfInBounds_ne hne,Array.getElem?_map,h0]
     simp [woken_run hrun]
    ·by_cases hji : i = j
     ·subst hji
      rw [Array.getElem?_setIfInBounds_self_of_lt (by simpa using hlt)] at hy
      obtain rfl:=Option.some.inj hy
      rw [ConcN.upd_same,Deaf_own]
      exact hq'
     ·rw [Array.getElem?_setIfInBounds_ne hji,Array.getElem?_map] at hy
      obtain ⟨z,hz,rfl⟩:=Option.map_eq_some_iff.1 hy
      have hqj:=hL.old j z hj hz
      rw [woken_quitsD hqj,ConcN.upd_ne q k (Ne.symm hji),Deaf_other t hji _ (λ op hop => by obtain ⟨e,_,rfl⟩:=Conc.mem_ofEvents hop; rfl)]
      exact hqj
    ·rw [Deaf_other t (g':=i) (by simp at hj; omega) _ (λ op hop => by obtain ⟨e,_,rfl⟩:=Conc.mem_ofEvents hop; rfl)]
     exact hL.above j (by simpa using hj)
 intro gs t sl q h0 hL hP
 have:=key _ w.drawn gs t sl q rfl h0 hL hP
 exact this
theorem J.own {Shun : Loc -> Prop} {B : Nat} {g : Goroutine} {w : World} (hrun : g.status = .running)
  (h : ∀ d,∃ g' w' es B',stepG P true g (w.at d) = .go g' w' es /\ (∀ e ∈ es,EvL Shun B' e) /\ B <= B' /\ J P Post Shun B' g' w') : J P Post Shun B g w:=
 J.ownC hrun λ d => .inl (h d)
theorem J.done {Shun : Loc -> Prop} {B : Nat} {g : Goroutine} {w : World} (hrun : g.status = .running)
  (h : ∀ d,∃ v es,stepG P true g (w.at d) = .ended (.done v) (w.at d) es /\ (∀ e ∈ es,EvL Shun B e) /\ Post v (w.at d)) : J P Post Shun B g w:=by
 intro gs t sl q h0 hL hP
 exact beside_ends (B:=B) (D:=λ _ _ es => ∀ e ∈ es,EvL Shun B e) (n:=0) (λ _ _ _ hd => hd) h0 hL hP (λ w₁ ⟨d,hd⟩ => by subst hd; exact ⟨hrun,h d⟩)
theorem J.phase {L : Type} {ty : TypeId} {Wg : Nat} {A : Proto L} (hA : A.Ok) {Shun : Loc -> Prop} {a : Goroutine} {w : World} {l : L} {τ : Terr} {B : Nat}
  (hb : BehE P ty Wg A (λ g w' => J P Post (λ l => Shun l \/ onB l Wg) w'.heap.size g w') true (.usr l) 0 τ a w) (hg : WgAt ty Wg w 0 0) (hB : B <= Wg /\ B <= w.heap.size)
  (bnd : ∀ b,τ.own b \/ τ.still b \/ τ.pass b -> b < w.heap.size /\ b ≠ Wg /\ ∀ l,onB l b -> ¬ Shun l) (pend : A.pend l = false)
  (inv : A.Inv (λ i => if i = 0 then .run l else .gone) (λ _ => none)) : J P Post Shun B a w:=by
 intro gs t sl q h0 hL hP
 obtain ⟨N,m',t',h1,gs',a',w',sl',q',rfl,h2,h3,h4,h5,h6⟩:=Mt.phase hA (S:=⟨h0,hL,hP,hb,hg,hB,bnd,pend,inv⟩) sl
 exact Ends.run N h1 (h4 gs' t' sl' q' h2 h5 h6)
end
end Go.Mt
namespace Go.Mt
open Go.Conc Go.Tt
open Go.ConcR (KK wgBlock WgAt stA smA rd wr)
abbrev K0 : Pr:=λ _ _ => False
structure Sh (n : Nat) (Shun : Loc -> Prop) (R : Pr) (W : World) : Prop where
 old : ∀ l b,onB l b -> b < n -> ¬ Shun l
 rel : ∀ a b,R a b -> ∀ l,onB l b -> ¬ Shun l
 new : ∀ l b,onB l b -> W.heap.size <= b -> ¬ Shun l
structure Kp (W0 : World) (R : Pr) (St : Nat -> Prop) (W : World) : Prop where
 os : W.os = W0.os
 tape : W.tape = W0.tape
 output : W.output = W0.output
 size : W0.heap.size <= W.heap.size
 block : ∀ b,b < W0.heap.size -> W.heap[b]? = W0.heap[b]?
 old : ∀ a b,R a b -> b < W0.heap.size -> St a
theorem Kp.below {W0 W : World} {R : Pr} {St : Nat -> Prop} (h : Kp W0 R St W) : RowKit.Below W0.heap.size W0 W:=⟨h.os,h.tape,h.output,h.size,h.block⟩
section
variable (P : Pair) (fs : FuncId -> Bool) (G' : Gp) (St : Nat -> Prop) (W0 : World) (Post : Value -> World -> Prop)
def JO (m : Fm) (ms : List Fm) (w : World) : Prop:=
 ∀ (K R : Pr) (W : World) (m' : Fm) (ms' : List Fm) (Shun : Loc -> Prop),WRel (SF fs) K R G' St w W -> FmR P fs K R m m' -> MsR P fs K R ms ms' -> Sh W0.heap.size Shun R W -> Kp W0 R St W ->
  J P.c Post Shun W.heap.size (G m'.fr (ms'.map Fm.fr)) W
variable {P fs G' St W0 Post}
theorem JO.tape {m : Fm} {ms : List Fm} {w : World} (h : JO P fs G' St W0 Post m ms w) (T : Tape) (e : Nat) : JO P fs G' St W0 Post m ms (Tt.tp w T e):=
 λ K R W m' ms' Shun a b c d k => h K R W m' ms' Shun a.untp b c d k
theorem evL_of_evOk {Shun : Loc -> Prop} {R : Pr} {W : World} {St : Nat -> Prop} {e : Event} (h : EvOk R St e) {n : Nat} (hs : Sh n Shun R W) (hlt : ∀ a b,R a b -> b < W.heap.size) : EvL Shun W.heap.size e:=by
 rcases h with rfl | ⟨b,a,h1,h2,h3⟩
 ·exact ⟨λ x hx => by simp [MemAct.ofEvent,MemAct.touch?] at hx,by simp,by simp,trivial⟩
 ·obtain ⟨loc,wr,sy⟩:=e
  cases loc with
  | cell x =>
   simp only [evBlock,Option.some.injEq] at h1
   refine ⟨λ y hy hsh => ?_,by simp,by simp,?_⟩
   ·simp only [MemAct.ofEvent,MemAct.touch?,Option.some.injEq] at hy
    subst hy
    exact absurd hsh (hs.rel a b h2 _ h1)
   ·show x.block < W.heap.size
    rw [h1]; exact hlt a b h2
  | obj r =>
   simp only [evBlock,Option.some.injEq] at h1
   have hr : r < W.heap.size:=by rw [h1]; exact hlt a b h2
   refine ⟨λ y hy hsh => ?_,by simp,by simp,?_⟩
   ·have hyl : y.loc = .obj r:=by
     cases wr <;> cases sy <;> simp only [MemAct.ofEvent,MemAct.touch?,Option.some.injEq] at hy <;> first | (subst hy; rfl) | (cases hy; done)
    exact absurd (hyl ▸ hsh) (hs.rel a b h2 (.obj r) h1)
   ·cases wr <;> cases sy <;> exact hr
  | _ => simp [evBlock] at h1
theorem WRel.at {S : FuncId -> Prop} {K R : Pr} {G' : Gp} {w W : World} (h : WRel S K R G' St w W) (d : Nat) : WRel S K R G' St w (W.at d):=
 ⟨h.inj,h.inj',h.lt,h.low,h.gle,h.cont,h.rest,h.st,h.np,h.tb⟩
theorem JO.one (F : Fit2 P fs) (hG : G' = P.gp) {m : Fm} {ms : List Fm} {w : World} (hs : m.ret = true -> ms ≠ []) (nx : Tape -> (Fm × List Fm) × World) (hrun : ∀ T,(stepS P.g m ms).run P.g (Tt.tp w T 0) = .ok (nx T).1 (nx T).2)
  (hno : ∀ T K R y,¬ OpR P fs K R (nx T).1 y) (hJ : ∀ T,JO P fs G' St W0 Post (nx T).1.1 (nx T).1.2 (nx T).2) : JO P fs G' St W0 Post m ms w:=by
 intro K R W m' ms' Shun hw hm hms hsh hk
 refine J.ownC rfl λ d => ?_
 have hw₁:=WRel.at hw d
 let W₁:=W.at d
 let T : Tape:=λ n q => W₁.tape (W₁.drawn + n) q
 have hw₂ : WRel (SF fs) K R G' St (Tt.tp w T 0) W₁:=⟨hw₁.inj,hw₁.inj',hw₁.lt,hw₁.low,hw₁.gle,hw₁.cont,hw₁.rest,hw₁.st,hw₁.np,hw₁.tb⟩
 have htp : Tp (Tt.tp w T 0) W₁:=λ n q => by show W₁.tape (W₁.drawn + (0 + n)) q = _; rw [Nat.zero_add]
 obtain ⟨R1,x',W1,ev,e1,e2,e3,e4,e5⟩:=Sim.run hG _ (sim_stepS (l:=false) F (hw₂.relOk hG) hm hms (λ e => by cases e) hs) hw₂ htp (hrun T)
 replace e2:=e2.resolve_right λ x => hno T K R1 x' x.2
 have hev : (stepS P.c m' ms').events P.c W₁ #[] = ev:=by rw [e4]; simp
 have hsz : W.heap.size <= W1.heap.size:=e3.size.2
 have hsh1 : Sh W0.heap.size Shun R1 W1:=⟨hsh.old,λ a b x l hl => by
  rcases e3.new a b x with y | ⟨_,y⟩
  ·exact hsh.rel a b y l hl
  ·exact hsh.new l b hl y,λ l b hl hb => hsh.new l b hl (Nat.le_trans hsz hb)⟩
 have hk1 : Kp W0 R1 St W1:=by
  refine ⟨e3.os.2.trans hk.os,e3.tape.2.trans hk.tape,e3.out.2.trans hk.output,Nat.le_trans hk.size hsz,λ b hb => ?_,λ a b x hb => ?_⟩
  ·have hbW : b < W.heap.size:=Nat.lt_of_lt_of_le hb hk.size
   rw [e3.keep b hbW (λ a x => hk.old a b x hb)]
   exact hk.block b hb
  ·rcases e3.new a b x with y | ⟨_,y⟩
   ·exact hk.old a b y hb
   ·have h9 : W.heap.size <= b:=y
    have:=hk.size
    omega
 have goal:=hJ T K R1 W1 x'.1 x'.2 Shun e3.rel e2.1 e2.2.1 hsh1 hk1
 rcases stepG_stepS (main:=true) e1 [] with hst | hcs
 ·simp only [List.append_nil] at hst
  rw [hev] at hst
  exact .inl ⟨_,W1,_,W1.heap.size,hst,λ e he => evL_of_evOk (e5 e (mem_seen he)) hsh1 (λ a b x => (e3.rel.ltR a b x).2),hsz,goal⟩
 ·obtain ⟨cs,sh,v,wm,es,Rx,c1,c2,c3,c4,c5,c6,c7,c8,c9⟩:=comm_beh (main:=true) F hG hw₂ htp hm (hrun T) hcs []
  simp only [List.append_nil] at c1
  have hshx : Sh W0.heap.size Shun Rx W1:=⟨hsh.old,λ a b x l hl => by
   rcases c7 a b x with y | ⟨_,y,_⟩
   ·exact hsh.rel a b y l hl
   ·exact hsh.new l b hl y,λ l b hl hb => hsh.new l b hl (Nat.le_trans hsz hb)⟩
  refine .inr ⟨cs,sh,v,wm,W1,es,W1.heap.size,c1,c2,λ e he => evL_of_evOk (c5 e he) hshx (λ a b x => ?_),hsz,c8,?_⟩
  ·rcases c7 a b x with y | ⟨_,_,y⟩
   ·exact Nat.lt_of_lt_of_le (hw.ltR a b y).2 hsz
   ·exact Nat.lt_of_lt_of_le y c8
  ·have e9 : Conc.served (G m'.fr (ms'.map Fm.fr)) v = G x'.1.fr (x'.2.map Fm.fr):=by rw [c3,c4]; rfl
   rw [e9]
   exact goal
theorem LTs.jo (F : Fit2 P fs) (hG : G' = P.gp) {N : Fm -> Prop} (hop : ∀ f xs,P.op f = true -> ¬ N (entF P.g f xs)) {Stop : Fm -> List Fm -> World -> Prop} (hS : ∀ m ms w,Stop m ms w -> JO P fs G' St W0 Post m ms w) {m : Fm} {ms : List Fm} {w : World} (h : LTs P.g N Stop m ms w) :
  JO P fs G' St W0 Post m ms w:=by
 induction h with
 | stop hs => exact hS _ _ _ hs
 | step nx hs hrun hN hlt ih =>
  rename_i m ms w
  refine JO.one F hG hs nx hrun (λ T K R y ho => ?_) ih
  obtain ⟨f,xs,xs',c,c',rest,rest',h1,h2,h3,h4,_⟩:=ho.ex
  have hNT:=hN T
  rw [h4] at hNT
  exact hop f xs h1 hNT
end
end Go.Mt
namespace Go.Mt
open Go.Conc Go.Tt
open Go.ConcR (KK wgBlock WgAt stA smA rd wr)
abbrev PL (p : Program) (op gs : FuncId -> Bool) : Pair:=⟨p,p.funcs,op,λ _ => false,gs,false⟩
abbrev PS (p : Program) (gs : FuncId -> Bool) : Pair:=⟨p,p.funcs,λ _ => false,λ _ => false,gs,false⟩
structure Lv (p : Program) (op gs gs₁ fs : FuncId -> Bool) : Prop where
 fit : Fit2 (PL p op gs) fs
 fit₁ : Fit3 (PS p gs₁) fs
 nofit : ∀ f,op f = true -> ∃ fn c,p.funcs[f]? = some fn /\ fn.body = some c /\ (fn.name == "runtime.NumGoroutine") = false /\ fitCode p ⟨fs,gs₁,false⟩ c = false
section
variable {p : Program} {op gs gs₁ fs : FuncId -> Bool} {St : Nat -> Prop} {W0 : World} {Post : Value -> World -> Prop}
abbrev JL (p : Program) (op gs fs : FuncId -> Bool) (St : Nat -> Prop) (W0 : World) (Post : Value -> World -> Prop) (m : Fm) (ms : List Fm) (w : World) : Prop:=JO (PL p op gs) fs (prGp p) St W0 Post m ms w
theorem entF_fn (p : Program) (f : FuncId) (xs : Array Value) : (entF p f xs).fn = f:=by
 unfold entF
 split
 ·split <;> rfl
 ·rfl
theorem JO.untape {P : Pair} {fs : FuncId -> Bool} {G' : Gp} {m : Fm} {ms : List Fm} {w : World} {T : Tape} {e : Nat} (h : JO P fs G' St W0 Post m ms (Tt.tp w T e)) : JO P fs G' St W0 Post m ms w:=
 λ K R W m' ms' Shun a b c d k => h K R W m' ms' Shun ⟨a.inj,a.inj',a.lt,a.low,a.gle,a.cont,a.rest,a.st,a.np,a.tb⟩ b c d k
theorem RelS.tape {P : Pair} {fs : FuncId -> Bool} {K : Pr} {G' : Gp} {m : Fm} {ms : List Fm} {w : World} (h : RelS P fs K G' St m ms w) (T : Tape) (e : Nat) : RelS P fs K G' St m ms (Tt.tp w T e):=by
 obtain ⟨R,W,m',ms',a,b,c⟩:=h
 exact ⟨R,W,m',ms',⟨a.inj,a.inj',a.lt,a.low,a.gle,a.cont,a.rest,a.st,a.np,a.tb⟩,b,c⟩
theorem piece_tree {P₁ : Pair} {fs₁ : FuncId -> Bool} {K₁ : Pr} {G₁ : Gp} {St₁ : Nat -> Prop} (F₁ : Fit3 P₁ fs₁) (hG₁ : G₁ = P₁.gp) {fn : FuncId} {tmps : Array Value} {c : Code} {w : World} {Q : Exit -> Go.Act -> World -> Prop}
  (hrel : RelS P₁ fs₁ K₁ G₁ St₁ ⟨fn,tmps,[.code c],false⟩ [] w) (hwp : ∀ T,Code.wp P₁.g c Q ⟨tmps,[]⟩ (Tt.tp w T 0)) (hx : ∀ e a w,Q e a w -> e = .normal \/ e = .ret) (hQt : ∀ e a w T k,Q e a w -> Q e a (Tt.tp w T k)) :
  Tt.LT P₁.g (λ mT wT => mT.ret = true /\ ((mT.todo = [] /\ Q .normal ⟨mT.tmps,[]⟩ wT) \/ Q .ret ⟨mT.tmps,[]⟩ wT)) ⟨fn,tmps,[.code c],false⟩ [] w:=by
 refine bar F₁ hG₁ (λ m w T e h => ⟨h.1,h.2.imp (λ x => ⟨x.1,hQt _ _ _ _ _ x.2⟩) (hQt _ _ _ _ _)⟩) ⟨hrel,λ T => ?_⟩
 let b : Frame:={ (default : Frame) with fn:=fn,kind:=.normal }
 obtain ⟨e,a',w',hq,harr⟩:=hwp T b [] [pz]
 have hrel':=RelS.tape hrel T 0
 have fin : ∀ todo,Steps P₁.g (lone (b.at ⟨tmps,[]⟩ [.code c]) [pz] (Tt.tp w T 0)) (lone { b.at a' todo with mode:=.returning } [pz] w') -> ((todo = [] /\ Q .normal a' w') \/ Q .ret a' w') ->
   ∃ n mT wT,Its P₁.g n ⟨fn,tmps,[.code c],false⟩ [] (Tt.tp w T 0) mT wT /\ mT.ret = true /\ ((mT.todo = [] /\ Q .normal ⟨mT.tmps,[]⟩ wT) \/ Q .ret ⟨mT.tmps,[]⟩ wT):=by
  intro todo hs hqq
  obtain ⟨n,hn⟩:=hs
  obtain ⟨k,mT,hi,hfr⟩:=reach F₁ hG₁ (frT:={ b.at a' todo with mode:=.returning }) rfl n hrel' hn
  have h1 : mT.tmps = a'.tmps:=congrArg Frame.tmps hfr
  have h2 : a'.defers = []:=(congrArg Frame.defers hfr).symm
  have h3 : mT.todo = todo:=congrArg Frame.todo hfr
  have h4 : mT.ret = true:=by
   cases hr : mT.ret with
   | true => rfl
   | false => have:=congrArg Frame.mode hfr; rw [Fm.fr_run hr] at this; cases this
  have h5 : (⟨mT.tmps,[]⟩ : Go.Act) = a':=by rw [h1,<- h2]
  exact ⟨k,mT,w',hi,h4,by rw [h5,h3]; exact hqq⟩
 rcases hx e a' w' hq with rfl | rfl
 ·exact fin [] (Steps.trans harr (Steps.one step_end)) (.inl ⟨rfl,hq⟩)
 ·obtain ⟨todo,hs⟩:=harr
  exact fin todo hs (.inr hq)
def notOp (p : Program) (op : FuncId -> Bool) (m : Fm) : Prop:=∀ f xs,op f = true -> m ≠ entF p f xs
theorem Lv.hop (L : Lv p op gs gs₁ fs) : ∀ f xs,(PL p op gs).op f = true -> ¬ notOp p op (entF (PL p op gs).g f xs):=λ f xs h hn => hn f xs h rfl
theorem Lv.hN (L : Lv p op gs gs₁ fs) {K₁ : Pr} : ∀ m R y,FmR (PS p gs₁) fs K₁ R m y -> notOp p op m:=by
 rintro m R y hm f xs ho rfl
 obtain ⟨fn,c,h1,h2,_,h4⟩:=L.nofit f ho
 have h5 : entF p f xs = ⟨f,xs ++ Array.replicate (fn.ntmps - xs.size) undef,[.code c],false⟩:=by simp [entF,h1,h2]
 have hf:=hm.fit
 rw [h5] at hf
 have:=hf (.code c) (by simp)
 have h6 : cls (PS p gs₁) fs f = ⟨fs,gs₁,false⟩:=rfl
 simp only [fitItem,h6,h4] at this
 cases this
theorem relS_piece {K : Pr} {R : Pr} {fn : FuncId} {tmps : Array Value} {c : Code} {k : List Item} {w W : World} {m' : Fm} (hc : fitCode p ⟨fs,gs₁,false⟩ c = true)
  (hw : WRel (SF fs) K R (prGp p) St w W) (hm : FmR (PL p op gs) fs K R ⟨fn,tmps,.code c :: k,false⟩ m') : RelS (PS p gs₁) fs K (prGp p) St ⟨fn,tmps,[.code c],false⟩ [] w:=by
 refine ⟨R,W,{ m' with todo:=[.code c] },[],hw,⟨hm.fn,rfl,hm.ret,hm.tmps,λ i hi => ?_,hm.infs⟩,.nil⟩
 simp only [List.mem_cons,List.not_mem_nil,or_false] at hi
 subst hi
 exact hc
theorem JO.piece (L : Lv p op gs gs₁ fs) {fn : FuncId} {tmps : Array Value} {c : Code} {k : List Item} {b : List Fm} {w : World} (hc : fitCode p ⟨fs,gs₁,false⟩ c = true) (hfn : op fn = false)
  (hwp : ∀ T,Code.wp p c (λ e a' w' => e = .normal /\ JL p op gs fs St W0 Post ⟨fn,a'.tmps,k,false⟩ b w') ⟨tmps,[]⟩ (Tt.tp w T 0)) : JL p op gs fs St W0 Post ⟨fn,tmps,.code c :: k,false⟩ b w:=by
 intro K R W m' ms' Shun hw hm hms hsh hk
 have hrel:=relS_piece (gs₁:=gs₁) hc hw hm
 have tree:=piece_tree L.fit₁ rfl hrel hwp (λ e a w h => .inl h.1) (λ e a w T k h => ⟨h.1,h.2.tape T k⟩)
 have tree2:=LT.app L.fit₁ rfl (N:=notOp p op) (Stop:=λ m ms w => JL p op gs fs St W0 Post m ms w) k b (fn0:=fn) (L.hN (K₁:=K)) (λ m e f xs ho e2 => by rw [e2,entF_fn] at e; rw [e,hfn] at ho; cases ho)
  (λ x w e1 e2 e3 hq => by
   have h1:=hq w.tape
   rcases h1.2 with h | h
   ·have h2:=JO.untape h.2.2
    obtain ⟨xf,xt,xd,xr⟩:=x
    simp only at e1 e2 e3 h2
    subst e1 e2 e3
    exact h2
   ·cases h.1)
  (λ x w e1 e2 e3 hq => by
   rcases hq.2 with h | h
   ·exact absurd h.1 e3
   ·cases h.1) tree rfl hrel (λ _ e => by cases e)
 exact LTs.jo L.fit rfl L.hop (λ m ms w h => h) tree2 K R W m' ms' Shun hw hm hms hsh hk
theorem JO.ctl (L : Lv p op gs gs₁ fs) {m m1 : Fm} {ms : List Fm} {w : World} (hr : m.ret = false) (hf : op m1.fn = false) (hrun : ∀ w,(runS p m ms).run p w = .ok (m1,ms) w) (hJ : JL p op gs fs St W0 Post m1 ms w) : JL p op gs fs St W0 Post m ms w:=by
 refine JO.one L.fit rfl (λ e => by rw [hr] at e; cases e) (λ T => ((m1,ms),Tt.tp w T 0)) (λ T => ?_) (λ T K R y ho => ?_) λ T => hJ.tape T 0
 ·show (stepS p m ms).run p _ = _
  simp only [stepS,hr,Bool.false_eq_true,if_false]
  exact hrun _
 ·obtain ⟨f,xs,xs',c,c',rest,rest',h1,h2,h3,h4,_⟩:=ho.ex
  simp only [Prod.mk.injEq] at h4
  have h5:=h4.1
  rw [h5,entF_fn] at hf
  have h6 : op f = true:=h1
  rw [hf] at h6; cases h6
theorem JO.seq (L : Lv p op gs gs₁ fs) {fn : FuncId} {tmps : Array Value} {a b : Code} {k : List Item} {ms : List Fm} {w : World} (hf : op fn = false) (h : JL p op gs fs St W0 Post ⟨fn,tmps,.code a :: .code b :: k,false⟩ ms w) : JL p op gs fs St W0 Post ⟨fn,tmps,.code (.seq a b) :: k,false⟩ ms w:=
 JO.ctl L rfl hf (λ w => rfl) h
theorem JO.cond (L : Lv p op gs gs₁ fs) {fn : FuncId} {tmps : Array Value} {c : Operand} {a b : Code} {k : List Item} {ms : List Fm} {w : World} {t : Bool} (hf : op fn = false) (hc : (Go.Act.mk tmps []).eval c = .bool t) (h : JL p op gs fs St W0 Post ⟨fn,tmps,.code (if t then a else b) :: k,false⟩ ms w) : JL p op gs fs St W0 Post ⟨fn,tmps,.code (.cond c a b) :: k,false⟩ ms w:=by
 refine JO.ctl L rfl hf (λ w => ?_) h
 have he : Fm.eval ⟨fn,tmps,.code (.cond c a b) :: k,false⟩ c = .bool t:=by rw [<- hc]; cases c <;> rfl
 simp only [runS,he,Pure.pure,Sem.run]
theorem JO.skip (L : Lv p op gs gs₁ fs) {fn : FuncId} {tmps : Array Value} {k : List Item} {ms : List Fm} {w : World} (hf : op fn = false) (h : JL p op gs fs St W0 Post ⟨fn,tmps,k,false⟩ ms w) : JL p op gs fs St W0 Post ⟨fn,tmps,.code .skip :: k,false⟩ ms w:=JO.ctl L rfl hf (λ w => rfl) h
theorem JO.ret (L : Lv p op gs gs₁ fs) {fn : FuncId} {tmps : Array Value} {k : List Item} {ms : List Fm} {w : World} (hf : op fn = false) (h : JL p op gs fs St W0 Post ⟨fn,tmps,.code .ret :: k,true⟩ ms w) : JL p op gs fs St W0 Post ⟨fn,tmps,.code .ret :: k,false⟩ ms w:=JO.ctl L rfl hf (λ w => rfl) h
theorem JO.fall (L : Lv p op gs gs₁ fs) {fn : FuncId} {tmps : Array Value} {ms : List Fm} {w : World} (hf : op fn = false) (h : JL p op gs fs St W0 Post ⟨fn,tmps,[],true⟩ ms w) : JL p op gs fs St W0 Post ⟨fn,tmps,[],false⟩ ms w:=JO.ctl L rfl hf (λ w => rfl) h
theorem JO.reg (L : Lv p op gs gs₁ fs) {fn : FuncId} {tmps : Array Value} {id : Nat} {ops : Array Oper} {k : List Item} {ms : List Fm} {w : World} (hf : op fn = false) (h : JL p op gs fs St W0 Post ⟨fn,tmps,.inRegion ops (List.range ops.size) :: k,false⟩ ms w) : JL p op gs fs St W0 Post ⟨fn,tmps,.code (.region id ops false) :: k,false⟩ ms w:=JO.ctl L rfl hf (λ w => rfl) h
theorem JO.regEnd (L : Lv p op gs gs₁ fs) {fn : FuncId} {tmps : Array Value} {ops : Array Oper} {k : List Item} {ms : List Fm} {w : World} (hf : op fn = false) (h : JL p op gs fs St W0 Post ⟨fn,tmps,k,false⟩ ms w) : JL p op gs fs St W0 Post ⟨fn,tmps,.inRegion ops [] :: k,false⟩ ms w:=JO.ctl L rfl hf (λ w => rfl) h
theorem JO.opv (L : Lv p op gs gs₁ fs) {fn : FuncId} {tmps : Array Value} {ops : Array Oper} {i : Nat} {rest : List Nat} {k : List Item} {ms : List Fm} {w : World} {o : Oper} {v : Value} (hf : op fn = false) (ho : ops[i]? = some o) (hwt : Region.wanted o (yielded ops tmps) = true)
  (hx : ∀ T e,(execOp (Go.Act.mk tmps []).eval o).run p (Tt.tp w T e) = .ok (.value v) (Tt.tp w T e)) (h : JL p op gs fs St W0 Post ⟨fn,(Go.Act.put ⟨tmps,[]⟩ o.dst v).tmps,.inRegion ops rest :: k,false⟩ ms w) : JL p op gs fs St W0 Post ⟨fn,tmps,.inRegion ops (i :: rest) :: k,false⟩ ms w:=by
 refine JO.one L.fit rfl (λ e => by cases e) (λ T => ((⟨fn,(Go.Act.put ⟨tmps,[]⟩ o.dst v).tmps,.inRegion ops rest :: k,false⟩,ms),Tt.tp w T 0)) (λ T => ?_) (λ T K R y hoo => ?_) λ T => h.tape T 0
 ·show (stepS p _ ms).run p _ = _
  simp only [stepS,Bool.false_eq_true,if_false,runS,ho,Option.map_some,Option.getD_some,hwt,if_true]
  have he : Fm.eval ⟨fn,tmps,.inRegion ops (i :: rest) :: k,false⟩ = (Go.Act.mk tmps []).eval:=by funext x; cases x <;> rfl
  rw [he]
  refine (Sem.run_bind' p _ _ _).trans ?_
  rw [hx]
  simp only [Result.andThen,opS,Pure.pure,Sem.run,Fm.fin,ho,Option.bind_some,Go.Act.put]
  cases o.dst <;> rfl
 ·obtain ⟨f,xs,xs',c,c',rest,rest',h1,h2,h3,h4,_⟩:=hoo.ex
  simp only [Prod.mk.injEq] at h4
  have h5:=congrArg Fm.fn h4.1
  rw [entF_fn] at h5
  have h6 : op f = true:=h1
  simp only at h5
  rw [<- h5,hf] at h6; cases h6
theorem JO.back (L : Lv p op gs gs₁ fs) {x m : Fm} {ms : List Fm} {w : World} {ops : Array Oper} {i : Nat} {rest : List Nat} {k : List Item} {v : Value} (hr : x.ret = true) (htd : m.todo = .inRegion ops (i :: rest) :: k) {fnx : Func} (hfx : p.funcs[x.fn]? = some fnx) (hv : (resS fnx.results.toList x.tmps).run p w = .ok v w) (hf : op m.fn = false)
  (h : JL p op gs fs St W0 Post (m.fin ops i rest k v) ms w) : JL p op gs fs St W0 Post x (m :: ms) w:=by
 refine JO.one L.fit rfl (λ _ => by simp) (λ T => ((m.fin ops i rest k v,ms),Tt.tp w T 0)) (λ T => ?_) (λ T K R y hoo => ?_) λ T => h.tape T 0
 ·show (stepS p x (m :: ms)).run p _ = _
  simp only [stepS,hr,if_true]
  exact (retS_mk htd hfx ((tf_resS _ _ w v w hv).2 T 0)).1
 ·obtain ⟨f,xs,xs',c,c',rest,rest',h1,h2,h3,h4,_⟩:=hoo.ex
  simp only [Prod.mk.injEq] at h4
  have h5:=congrArg Fm.fn h4.1
  rw [entF_fn] at h5
  have h6 : op f = true:=h1
  have h7 : m.fn = f:=h5
  rw [<- h7,hf] at h6; cases h6
theorem JO.tail (L : Lv p op gs gs₁ fs) {fn : FuncId} {tmps : Array Value} {c : Code} {b : List Fm} {w : World} (hc : fitCode p ⟨fs,gs₁,false⟩ c = true) (hfn : op fn = false)
  (hwp : ∀ T,Code.wp p c (λ e a' w' => (e = .normal \/ e = .ret) /\ ∀ todo,JL p op gs fs St W0 Post ⟨fn,a'.tmps,todo,true⟩ b w') ⟨tmps,[]⟩ (Tt.tp w T 0)) : JL p op gs fs St W0 Post ⟨fn,tmps,[.code c],false⟩ b w:=by
 intro K R W m' ms' Shun hw hm hms hsh hk
 have hrel:=relS_piece (gs₁:=gs₁) hc hw hm
 have tree:=piece_tree L.fit₁ rfl hrel hwp (λ e a w h => h.1) (λ e a w T k h => ⟨h.1,λ todo => (h.2 todo).tape T k⟩)
 have tree2:=LT.app L.fit₁ rfl (N:=notOp p op) (Stop:=λ m ms w => JL p op gs fs St W0 Post m ms w) [] b (fn0:=fn) (L.hN (K₁:=K)) (λ m e f xs ho e2 => by rw [e2,entF_fn] at e; rw [e,hfn] at ho; cases ho)
  (λ x w e1 e2 e3 hq => by
   have h1:=hq w.tape
   have h2 : JL p op gs fs St W0 Post ⟨fn,x.tmps,[],true⟩ b w:=by
    rcases h1.2 with h | h
    ·exact JO.untape (h.2.2 [])
    ·exact JO.untape (h.2 [])
   obtain ⟨xf,xt,xd,xr⟩:=x
   simp only at e1 e2 e3 h2
   subst e1 e2 e3
   exact JO.fall L hfn h2)
  (λ x w e1 e2 e3 hq => by
   have h2 : JL p op gs fs St W0 Post ⟨fn,x.tmps,x.todo,true⟩ b w:=by
    rcases hq.2 with h | h
    ·exact h.2.2 _
    ·exact h.2 _
   obtain ⟨xf,xt,xd,xr⟩:=x
   simp only at e1 e2 e3 h2
   subst e1 e2
   rw [Fm.app_nil]
   exact h2) tree rfl hrel (λ _ e => by cases e)
 exact LTs.jo L.fit rfl L.hop (λ m ms w h => h) tree2 K R W m' ms' Shun hw hm hms hsh hk
theorem exec_call {p : Program} {o : Oper} {f : FuncId} {args : Array Operand} {ats : Array TypeId} (hop : o.op = .call ⟨.value (.func f),args,ats⟩) {ρ : Operand -> Value} (hρ : ∀ g,ρ (.func g) = .func (.func g) #[] #[]) {fn : Func} {c : Code} (hf : p.funcs[f]? = some fn)
  (hn : (fn.name == "runtime.NumGoroutine") = false) (hb : fn.body = some c) (w : World) : (execOp ρ o).run p w = .ok (.enter f (args.map ρ)) w /\ (execOp ρ o).events p w #[] = #[]:=by
 obtain ⟨dst,op',type,pos,after,guard⟩:=o
 simp only at hop
 subst hop
 have hn' : ¬ fn.name = "runtime.NumGoroutine" := by simpa using hn
 constructor
 ·simp [execOp,resolve,Deferred.ofValue,hρ,invoke,callFunc,program,bind,Sem.bind,pure,Sem.run,hf,hn',hb]
 ·simp [execOp,resolve,Deferred.ofValue,hρ,invoke,callFunc,program,bind,Sem.bind,pure,Sem.run,Sem.events,Sem.runT,hf,hn',hb]
theorem JO.callF (L : Lv p op gs gs₁ fs) {m : Fm} {ms : List Fm} {w : World} {ops : Array Oper} {i : Nat} {rest : List Nat} {k : List Item} {o : Oper} {f : FuncId} {args : Array Operand} {ats : Array TypeId} (hr : m.ret = false) (htd : m.todo = .inRegion ops (i :: rest) :: k)
  (ho : ops[i]? = some o) (hwt : Region.wanted o (yielded ops m.tmps) = true) (hop : o.op = .call ⟨.value (.func f),args,ats⟩) (hg : op f = true) (hargs : args.all (okX fs) = true)
  (hF : ∀ (K R : Pr) (W : World) (m' : Fm) (ms' : List Fm) (Shun : Loc -> Prop) (xs' : Array Value),WRel (SF fs) K R (prGp p) St w W -> FmR (PL p op gs) fs K R m m' -> MsR (PL p op gs) fs K R ms ms' -> Sh W0.heap.size Shun R W -> Kp W0 R St W -> ArR (SF fs) K R (args.map m.eval) xs' ->
   J p Post Shun W.heap.size (G (Frame.enter p f xs' .normal) (m'.fr :: ms'.map Fm.fr)) W) : JL p op gs fs St W0 Post m ms w:=by
 obtain ⟨fn,c,g2',g4,g3,_⟩:=L.nofit f hg
 intro K R W m' ms' Shun hw hm hms hsh hk
 refine J.own rfl λ d => ?_
 have hxs : ArR (SF fs) K R (args.map m.eval) (args.map m'.eval):=ArR.maps hm.eval hargs
 have hr' : m'.ret = false:=hm.ret.symm.trans hr
 have htd' : m'.todo = .inRegion ops (i :: rest) :: k:=hm.todo.symm.trans htd
 have hwt' : Region.wanted o (yielded ops m'.tmps) = true:=by rw [<- yielded_rel ops hm.tmps]; exact hwt
 have hent : Frame.enter p f (args.map m'.eval) .normal = (⟨f,args.map m'.eval ++ Array.replicate (fn.ntmps - (args.map m'.eval).size) undef,[.code c],false⟩ : Fm).fr:=enter_fr g2' g4
 obtain ⟨x1,x2⟩:=exec_call hop (ρ:=m'.eval) (λ g => rfl) g2' g3 g4 (W.at d)
 have hs : (stepS p m' ms').run p (W.at d) = .ok (⟨f,args.map m'.eval ++ Array.replicate (fn.ntmps - (args.map m'.eval).size) undef,[.code c],false⟩,m' :: ms') (W.at d):=by
  simp only [stepS,hr',Bool.false_eq_true,if_false,runS,htd',ho,Option.map_some,Option.getD_some,hwt',if_true]
  refine (Sem.run_bind' p _ _ _).trans ?_
  rw [x1]
  simp only [Result.andThen,opS,g2',g4,Pure.pure,Sem.run]
 have hst:=(stepG_stepS (main:=true) hs []).resolve_right λ hc => by
  obtain ⟨ops',i',rest',k',o',cs,sh,v,wm,_,ht2,ho2,_,hx2,_⟩:=hc
  rw [htd'] at ht2
  simp only [List.cons.injEq,Item.inRegion.injEq] at ht2
  obtain ⟨⟨rfl,rfl,rfl⟩,rfl⟩:=ht2
  rw [ho] at ho2
  cases ho2
  rw [x1] at hx2
  cases hx2
 simp only [List.append_nil] at hst
 have he : (stepS p m' ms').events p (W.at d) #[] = #[]:=by
  simp only [stepS,hr',Bool.false_eq_true,if_false,runS,htd',ho,Option.map_some,Option.getD_some,hwt',if_true]
  refine (Sem.events_bind' p _ _ _ #[]).trans ?_
  rw [x1,Result.evThen_ok,x2]
  simp only [opS,g2',g4]; rfl
 rw [he,Conc.seen_none] at hst
 refine ⟨_,W.at d,#[],W.heap.size,hst,λ e he => by simp at he,Nat.le_refl _,?_⟩
 rw [<- hent]
 exact hF K R (W.at d) m' ms' Shun (args.map m'.eval) (WRel.at hw d) hm hms ⟨hsh.old,hsh.rel,hsh.new⟩ ⟨hk.os,hk.tape,hk.output,hk.size,hk.block,hk.old⟩ hxs
theorem JO.fin (L : Lv p op gs gs₁ fs) {x : Fm} {w : World} {fn : Func} {t : Tmp} (hr : x.ret = true) (hf : p.funcs[x.fn]? = some fn) (ht : fn.results = #[.tmp t]) (hi : p.inits.idxOf? x.fn = none) (hP : ∀ K R W v',VR (SF fs) K R (x.tmps.getD t undef) v' -> Kp W0 R St W -> Post v' W) : JL p op gs fs St W0 Post x [] w:=by
 intro K R W m' ms' Shun hw hm hms hsh hk
 cases hms
 refine J.done rfl λ d => ?_
 have hr' : m'.ret = true:=hm.ret.symm.trans hr
 have hfn' : p.funcs[m'.fn]? = some fn:=by rw [<- hm.fn]; exact hf
 have hi' : p.inits.idxOf? m'.fn = none:=by rw [<- hm.fn]; exact hi
 refine ⟨m'.tmps.getD t undef,#[],?_,λ e he => by simp at he,hP K R (W.at d) _ (hm.tmps.getD t vr_undef) ⟨hk.os,hk.tape,hk.output,hk.size,hk.block,hk.old⟩⟩
 have r1:=results_tmp ht m'.tmps p (W.at d)
 have r2:=Conc.events_results_tmp (P:=p) (w:=W.at d) ht m'.tmps #[]
 rw [Fm.fr_ret hr']
 simp [G,stepG,unwind,doReturn,hfn',r1,r2,Conc.seen_none,GStep.after,hi']
end
end Go.Mt
