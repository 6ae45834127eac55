/-
  A call of eachRecord, at the law level.
-/
import Derived.Test.YtjcpjijihajopaaEachQ
set_option linter.unusedSectionVars false
set_option linter.unusedSimpArgs false
set_option linter.unusedVariables false
namespace Go.Proofs.Ytjcpjijihajopaa
open Go.RowKit Go.Mt Go.Conc Go.Tt Go.Conc.Lib Go.ConcR.Gen
set_option linter.unusedVariables false
abbrev JE (St : Nat → Prop) (W0 : World) (Post : Value → World → Prop) (m : Fm) (ms : List Fm) (w : World) : Prop := JL Try.prog (inL olL) (inL alL) fsF St W0 Post m ms w
theorem ar_two {S : FuncId → Prop} {K R : Pr} {a b : Value} {xs' : Array Value} (h : ArR S K R #[a, b] xs') : ∃ a' b', xs' = #[a', b'] ∧ VR S K R a a' ∧ VR S K R b b' := by
  obtain ⟨l⟩ := xs'
  obtain ⟨h1, h2⟩ := h
  simp only [List.size_toArray, List.length_cons, List.length_nil] at h1
  match l, h1 with
  | [x, y], _ => exact ⟨x, y, rfl, h2 0 a x rfl rfl, h2 1 b y rfl rfl⟩
section
variable {St : Nat → Prop} {W0 : World} {Post : Value → World → Prop}
set_option maxRecDepth 100000 in
theorem jo_each {m : Fm} {ms : List Fm} {w : World} {ops : Array Oper} {i : Nat} {rest : List Nat} {k : List Item} {o : Oper} {args : Array Operand} {ats : Array TypeId} {A : Option Addr} {n cap : Nat} {f : FuncId} {capt : Array Value} {rs : List RecD} {I : Nat → World → Prop} {src : Option Blk}
    (hr : m.ret = false) (htd : m.todo = .inRegion ops (i :: rest) :: k) (ho : ops[i]? = some o) (hwt : Region.wanted o (yielded ops m.tmps) = true) (hop : o.op = .call ⟨.value (.func 35), args, ats⟩) (hargs : args.all (okX fsF) = true)
    (hv : args.map m.eval = #[.slice A n cap, .func (.func f) #[] capt]) (hs : srcOk w A src) (hlo : ∀ b, src = some b → Try.prog.globals.size ≤ b.rb) (hslc : Slc w 0 w.heap.size 7 A n cap (recs rs)) (hn : n ≤ 1048576) (E : EachI f capt rs I) (hf : gsF f = true) (hI0 : I 0 (ghostM w src 76))
    (hJ : ∀ wn, I n wn → JE St W0 Post (m.fin ops i rest k (.tuple #[])) ms (thaw wn src)) : JE St W0 Post m ms w := by
  refine JO.callF lvF hr htd ho hwt hop rfl hargs fun K R W m' ms' Shun xs' hw hm hms hsh hk hxs => ?_
  rw [hv] at hxs
  obtain ⟨a', vf', rfl, ha, hvf⟩ := ar_two hxs
  cases ha with
  | slice hA =>
    rename_i A'
    have htd' : m'.todo = .inRegion ops (i :: rest) :: k := hm.todo.symm.trans htd
    refine each_start hsh.new fun W4 hst => ?_
    refine each_phase (R := R) (W0 := W0) (St := St) (src := src) (cf := m'.fr) (cs := ms'.map Fm.fr) hw hsh hk hs hlo hslc hn hA hvf hst E hf hI0 fun K' R' wn Wn hK hR hrel hin hsh' hk' => ?_
    rw [finish_fr htd']
    exact hJ wn hin K' R' Wn _ ms' _ hrel ((FmR.monoK hK (hm.mono hR)).fin htd (.tuple rfl fun i v v' h => by simp at h)) (MsR.monoK hK (hms.mono hR)) hsh' hk'
end
end Go.Proofs.Ytjcpjijihajopaa
