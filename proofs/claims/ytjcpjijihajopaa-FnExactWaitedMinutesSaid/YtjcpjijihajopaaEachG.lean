/-
  eachRecord, behind Add: the go statement; goroutine 0 and the sender begin.
-/
import Derived.Test.YtjcpjijihajopaaEachP
import Derived.Test.YtjcpjijihajopaaMt6
set_option linter.unusedSectionVars false
set_option linter.unusedSimpArgs false
set_option linter.unusedVariables false
namespace Go.Proofs.Ytjcpjijihajopaa
open Go.RowKit Go.Mt Go.Conc Go.Tt Go.Conc.Lib Go.ConcR.Gen
set_option linter.unusedVariables false
noncomputable def ops3 : Array Oper := match rEM3 with | .region _ ops _ => ops | _ => #[]
noncomputable def ops4 : Array Oper := match rEM4 with | .region _ ops _ => ops | _ => #[]
theorem rEM3_eq : rEM3 = .region 3 ops3 false := rfl
theorem rEM4_eq : rEM4 = .region 4 ops4 false := rfl
abbrev oper3 : Oper := ⟨some 8, .call ⟨.value (.func 54), #[.tmp 5, .const (.int .i64 1)], #[86, 3]⟩, 0, "l8_bills.go:66", #[], none⟩
abbrev oper40 : Oper := ⟨some 9, .makeFunc (.func 55) #[] #[.tmp 5, .tmp 4, .tmp 2], 1, "l8_bills.go:67", #[], none⟩
abbrev oper41 : Oper := ⟨none, .go ⟨.value (.tmp 9), #[], #[]⟩, 0, "l8_bills.go:67", #[{ on := 0, ground := Ground.data }], none⟩
theorem ops3_at : ops3[0]? = some oper3 := rfl
theorem ops4_0 : ops4[0]? = some oper40 := rfl
theorem ops4_1 : ops4[1]? = some oper41 := rfl
theorem ops3_range : List.range ops3.size = [0] := rfl
theorem ops4_range : List.range ops4.size = [0, 1] := rfl
/-- What stands while goroutine 0 calls Add. -/
structure F4 (R : Pr) (W0 W : World) (v : Value) (W' : World) : Prop where
  rel : ∀ a b, R a b → W'.heap[b]? = W.heap[b]?
  b0 : W'.heap[W.heap.size]? = some (.cells #[v] 25)
  b1 : W'.heap[W.heap.size + 1]? = some (.chan 0 #[] false 0 0 false)
  b2 : W'.heap[W.heap.size + 2]? = some (.cells #[.chan (some (W.heap.size + 1))] 76)
  os : W'.os = W.os
  tape : W'.tape = W.tape
  output : W'.output = W.output
  old : ∀ b, b < W0.heap.size → W'.heap[b]? = W0.heap[b]?
  size : W.heap.size + 4 ≤ W'.heap.size
/-- The sender's ghost. -/
theorem chw_ghost {w : World} {A : Option Addr} {src : Option Blk} {n cap : Nat} {rs : List RecD} (hs : srcOk w A src) (h : Slc w 0 w.heap.size 7 A n cap (recs rs)) :
    ChW w.heap.size (w.heap.size + 1) (numC w src) (sliceC w src) n cap rs (ghostC w src 76 25 n cap) := by
  have e1 : (w.alloc waste).heap.size = w.heap.size + 1 := size_push _ _
  have e2 : ((w.alloc waste).alloc (.cells #[.chan (some w.heap.size)] 76 (0, 1))).heap.size = w.heap.size + 2 := by rw [size_push, e1]
  cases src with
  | none =>
    obtain rfl : A = none := hs
    have hn : n = 0 := by
      rcases Nat.eq_zero_or_pos n with h0 | h0
      · exact h0
      · obtain ⟨_, _, e, _⟩ := h.at_ h0; cases e
    refine ⟨?_, ?_, h.len, h.le, h.cap, fun h0 => by omega⟩
    · show (World.alloc _ _).heap[_]? = _
      rw [heap_push_lt (by rw [e2]; omega), ← e1, heap_push]
    · show (World.alloc _ _).heap[_]? = _
      show _[w.heap.size + 2]? = _
      rw [← e2, heap_push]; rfl
  | some b =>
    obtain ⟨rfl, hb, _⟩ := hs
    have e3 : (((w.alloc waste).alloc (.cells #[.chan (some w.heap.size)] 76 (0, 1))).alloc (.cells b.cs b.T (0, max b.cs.size b.fz.2))).heap.size = w.heap.size + 3 := by rw [size_push, e2]
    have hb2 : (ghostC w (some b) 76 25 n cap).heap[w.heap.size + 2]? = some (.cells b.cs b.T (0, max b.cs.size b.fz.2)) := by
      show (World.alloc _ _).heap[_]? = _
      rw [heap_push_lt (by rw [e3]; omega), ← e2, heap_push]
    refine ⟨?_, ?_, h.len, h.le, h.cap, fun h0 => ⟨_, _, rfl, Nat.zero_le _, ?_, ?_, fun j v hv => ?_⟩⟩
    · show (World.alloc _ _).heap[_]? = _
      rw [heap_push_lt (by rw [e3]; omega), heap_push_lt (by rw [e2]; omega), ← e1, heap_push]
    · show (World.alloc _ _).heap[w.heap.size + 3]? = _
      rw [← e3, heap_push]; rfl
    · show w.heap.size + 2 < (World.alloc _ _).heap.size
      rw [size_push, e3]; omega
    · show w.heap.size + 2 < (World.alloc _ _).heap.size
      rw [size_push, e3]; omega
    · obtain ⟨b1, off, e, _, _, _, h4⟩ := h.at_ h0
      simp only [Option.some.injEq, Addr.mk.injEq] at e
      obtain ⟨rfl, rfl, _⟩ := e
      have := h4 j v hv
      rw [blk_cell hb] at this
      rw [blk_cell hb2]
      exact this
section
variable {Post : Value → World → Prop} {Shun : Loc → Prop} {W0 : World} {St : Nat → Prop} {n cap : Nat} {rs : List RecD} {K R : Pr} {I : Nat → World → Prop} {cf : Frame} {cs : List Frame} {f : FuncId} {capt : Array Value} {A A' : Option Addr} {vf' : Value} {w W W4 : World} {src : Option Blk}
/-- The places of the phase. -/
def tau0 (R : Pr) (St : Nat → Prop) (src : Option Blk) (W0 W : World) : Terr := ⟨fun b => (∃ a, R a b ∧ ¬ StF St src a) ∨ b = W.heap.size ∨ b = W.heap.size + 1 ∨ b = W.heap.size + 2, fun b => b < W0.heap.size ∨ ∃ a, R a b ∧ StF St src a, fun _ => False⟩
def tauM (R : Pr) (St : Nat → Prop) (src : Option Blk) (W0 W : World) : Terr := ⟨fun b => ∃ a, R a b ∧ ¬ StF St src a, fun b => b < W0.heap.size ∨ (∃ a, R a b ∧ StF St src a) ∨ b = W.heap.size + 2, fun _ => False⟩
def tauC (R : Pr) (St : Nat → Prop) (src : Option Blk) (W0 W : World) : Terr := ⟨fun _ => False, fun b => b < W0.heap.size ∨ (∃ a, R a b ∧ StF St src a) ∨ b = W.heap.size ∨ b = W.heap.size + 2, fun b => b = W.heap.size + 1⟩
theorem f4_keep {v : Value} (hlt : ∀ a b, R a b → b < W.heap.size) (hW0 : W0.heap.size ≤ W.heap.size) : KeepF wgl.tWg (W.heap.size + 3) (tau0 R St src W0 W) (F4 R W0 W v) := by
  refine ⟨fun W' W'' s h => ?_, fun W' a v ha h => ?_⟩
  · refine ⟨fun a b x => (s.keep b ?_).trans (h.rel a b x), (s.keep _ (.inl (.inr (.inl rfl)))).trans h.b0, (s.keep _ (.inl (.inr (.inr (.inl rfl))))).trans h.b1, (s.keep _ (.inl (.inr (.inr (.inr rfl))))).trans h.b2, s.os.trans h.os, s.tape.trans h.tape, s.output.trans h.output, fun b hb => (s.keep b (.inr (.inl hb))).trans (h.old b hb), Nat.le_trans h.size s.size⟩
    by_cases e : StF St src a
    · exact .inr (.inr ⟨a, x, e⟩)
    · exact .inl (.inl ⟨a, x, e⟩)
  · have hA1 := aside_setCell W' a v
    refine ⟨fun x b hx => (setCell_ne W' a v (by have := hlt x b hx; omega)).trans (h.rel x b hx), (setCell_ne W' a v (by omega)).trans h.b0, (setCell_ne W' a v (by omega)).trans h.b1, (setCell_ne W' a v (by omega)).trans h.b2, hA1.os.trans h.os, hA1.tape.trans h.tape, hA1.output.trans h.output, fun b hb => (setCell_ne W' a v (by omega)).trans (h.old b hb), by rw [setCell_size]; exact h.size⟩
/-- What is frozen while the sender reads. -/
abbrev fzB (R : Pr) (St : Nat → Prop) (src : Option Blk) (b : Nat) : Prop := ∃ a, R a b ∧ StF St src a
set_option maxHeartbeats 4000000 in
set_option maxRecDepth 100000 in
theorem go_main (hw : WRel (SF fsF) K R Try.prog.globals.size St w W) (hsh : Sh W0.heap.size Shun R W) (hk : Kp W0 R St W) (hs : srcOk w A src) (hslc : Slc w 0 w.heap.size 7 A n cap (recs rs)) 
    (hA : OaR R A A') (hvf : VR (SF fsF) K R (.func (.func f) #[] capt) vf') (E : EachI f capt rs I) (hf : gsF f = true) (hI0 : I 0 (ghostM w src 76))
    (hcont : ∀ (K' R' : Pr) (wn Wn : World), K.le K' → R.le R' → WRel (SF fsF) K' R' Try.prog.globals.size St (thaw wn src) Wn → I n wn → Sh W0.heap.size (shunG Shun (W.heap.size + 3)) R' Wn → Kp W0 R' St Wn → J Try.prog Post (shunG Shun (W.heap.size + 3)) Wn.heap.size (G (cf.finish (.tuple #[])) cs) Wn)
    {W7 : World} (h7 : F4 R W0 W (.slice A' n cap) W7) (hl7 : WgLive wgl.tWg (W.heap.size + 3) W7) :
    BehE Try.prog wgl.tWg (W.heap.size + 3) (pipe (W.heap.size + 1) n (recVal rs)) (finJ Post Shun (W.heap.size + 3)) true (.usr (.rv 0)) 0 (tauM R St src W0 W) (G ((Conc.base 35).at ⟨#[.slice A' n cap, vf', .pointer (some ⟨W.heap.size, 0, none⟩), undef, .pointer (some ⟨W.heap.size + 2, 0, none⟩), .pointer (some ⟨W.heap.size + 3, 0, none⟩), undef, .chan (some (W.heap.size + 1)), .tuple #[], .func (.func 55) #[] #[.pointer (some ⟨W.heap.size + 3, 0, none⟩), .pointer (some ⟨W.heap.size + 2, 0, none⟩), .pointer (some ⟨W.heap.size, 0, none⟩)], undef, undef, undef, undef, undef, undef, undef, undef], []⟩ [.inRegion ops4 [], .code (.seq (.seq rEM5 (.block 0 (.loop loopEM))) rEM9)]) (cf :: cs)) W7 := by
  have hrs : rs.length = n := hslc.recLen
  have hlt : ∀ a b, R a b → b < W.heap.size := fun a b x => (hw.lt a b (.inl x)).2
  have hsR : ∀ b, src = some b → ∃ b', R b.rb b' := fun b e => by
    subst e
    obtain ⟨rfl, _, _⟩ := hs
    cases hA with
    | some x => cases x with | mk x => exact ⟨_, x⟩
  have hW0 : W0.heap.size ≤ W.heap.size := hk.size
  let Fz : Nat → Prop := fzB R St src
  let SS : Nat → Prop := (tauM R St src W0 W).still
  have hSS : ∀ b, b < W0.heap.size → SS b := fun b hb => .inl hb
  have hF : ∀ b, Fz b → SS b := fun b hb => .inr (.inl hb)
  have hlow : W0.heap.size ≤ W.heap.size + 3 := by omega
  have hrel := main_rel hw hs hsR (N1 := W.heap.size + 1) (N2 := W.heap.size + 2) (Tc := 76) (W4 := W7) (by omega) (by omega) (by omega) h7.rel (by have := h7.size; omega) h7.b2
  let C : Cx PpL := mainCx (W.heap.size + 3) (W.heap.size + 1) n (recVal rs) (finJ Post Shun (W.heap.size + 3)) (K.add w.heap.size (W.heap.size + 1)) (stM St src w) (withLive wgl.tWg (W.heap.size + 3) (IMX W0 St (shunG Shun (W.heap.size + 3)) (W.heap.size + 3) SS R Fz W)) (cf :: cs)
  have hC : IOk C := imx_ok (C := C) rfl (fun a x => .inl (.inl x)) hSS hF hlow
  have hX : IX wgl.tWg (W.heap.size + 3) (IMX W0 St (shunG Shun (W.heap.size + 3)) (W.heap.size + 3) SS R Fz W) := imx_ix hSS hF hlow
  have hwait : ∀ tmps w', I n w' → BO C .wt ⟨35, tmps, [.code rEM9], false⟩ w' := fun tmps w' hw' => by
    refine each_wait (K := K.add w.heap.size (W.heap.size + 1)) (StM := stM St src w) hC hX (fun R' τ wn Wn hr ht hi hin => ?_) tmps w' hw'
    refine hcont (K.add w.heap.size (W.heap.size + 1)) R' wn Wn (Pr.le_add _ _ _) hi.le ?_ hin hi.im.sh hi.im.kp
    refine thaw_rel hw hs hi.le (WRel.subSt hr fun a x => .inl x) (fun b b' e hb => ?_) hsR
    exact (hi.fz b' ⟨b.rb, hb, .inr ⟨b, e, rfl⟩⟩).2.1
  have hv : (ghostM w src 76).heap[w.heap.size + 1]? = some (.cells #[.chan (some w.heap.size)] 76 (0, 1)) := by
    have e1 : ((frz w src).alloc waste).heap.size = w.heap.size + 1 := by rw [size_push, frz_size]
    unfold ghostM
    rw [← e1, heap_push]
  have hB := each_main (ops4 := ops4) (u0 := .slice A n cap) (u2 := .nilFunc) (u3 := undef) (u6 := undef) (u7 := .chan (some w.heap.size)) (u8 := .tuple #[]) (u9 := .nilFunc) (u10 := undef) (u11 := undef) (u12 := undef) (u13 := undef) (u14 := undef) (u15 := undef) (u16 := undef) (u17 := undef) hC (.inr ⟨rfl, rfl⟩) hrs E hf hwait hI0 hv
  have hRle : R.le (R.add (w.heap.size + 1) (W.heap.size + 2)) := Pr.le_add _ _ _
  have hKle : K.le (K.add w.heap.size (W.heap.size + 1)) := Pr.le_add _ _ _
  refine hB (R.add (w.heap.size + 1) (W.heap.size + 2)) W7 ⟨35, #[.slice A' n cap, vf', .pointer (some ⟨W.heap.size, 0, none⟩), undef, .pointer (some ⟨W.heap.size + 2, 0, none⟩), .pointer (some ⟨W.heap.size + 3, 0, none⟩), undef, .chan (some (W.heap.size + 1)), .tuple #[], .func (.func 55) #[] #[.pointer (some ⟨W.heap.size + 3, 0, none⟩), .pointer (some ⟨W.heap.size + 2, 0, none⟩), .pointer (some ⟨W.heap.size, 0, none⟩)], undef, undef, undef, undef, undef, undef, undef, undef], [.inRegion ops4 [], .code (.seq (.seq rEM5 (.block 0 (.loop loopEM))) rEM9)], false⟩ (tauM R St src W0 W) hrel ⟨rfl, rfl, rfl, ?_, fun x hx => ?_⟩ ?_ ⟨⟨⟨⟨h7.os.trans hk.os, h7.tape.trans hk.tape, h7.output.trans hk.output, by have := h7.size; omega, h7.old, ?_⟩, ⟨?_, ?_, ?_⟩, rfl, by have := h7.size; omega, ?_, ?_⟩, hRle, ?_⟩, hl7⟩
  · have v0 : VR (SF fsF) (K.add w.heap.size (W.heap.size + 1)) (R.add (w.heap.size + 1) (W.heap.size + 2)) (.slice A n cap) (.slice A' n cap) := .slice (hA.mono hRle)
    have v1 := (hvf.mono hRle).monoK hKle
    have hj : ∀ x, Tt.Hid x → VR (SF fsF) (K.add w.heap.size (W.heap.size + 1)) (R.add (w.heap.size + 1) (W.heap.size + 2)) .nilFunc x := fun x h => .junk h
    have vu := vr_undef (S := SF fsF) (K := K.add w.heap.size (W.heap.size + 1)) (R := R.add (w.heap.size + 1) (W.heap.size + 2))
    exact (((((((((((((((((ArR.empty.push v0).push v1).push (hj _ (by exact True.intro))).push vu).push (.pointer (.some (.mk (.inr ⟨rfl, rfl⟩))))).push (hj _ (by exact True.intro))).push vu).push (.chan (.some (.inr (.inr ⟨rfl, rfl⟩))))).push (.tuple rfl fun i v v' h => by simp at h)).push (hj _ (by exact True.intro))).push vu).push vu).push vu).push vu).push vu).push vu).push vu).push vu
  · obtain rfl := List.mem_singleton.1 hx
    rfl
  · rintro a b (x | ⟨rfl, rfl⟩)
    · refine ⟨fun z => ?_, fun z => ⟨a, x, fun y => z (.inl y)⟩⟩
      rcases z with z | z
      · exact .inr (.inl ⟨a, x, z⟩)
      · have := (hw.lt a b (.inl x)).1; omega
    · exact ⟨fun _ => .inr (.inr rfl), fun z => absurd (.inr rfl) z⟩
  · rintro a b (x | ⟨rfl, rfl⟩) hb
    · exact hk.old a b x hb
    · omega
  · rintro l b hl hb (hx | hx)
    · exact hsh.old l b hl hb hx
    · have := onB_inj hl hx; omega
  · rintro a b (x | ⟨rfl, rfl⟩) l hl (hx | hx)
    · exact hsh.rel a b x l hl hx
    · have := onB_inj hl hx; have := hlt a b x; omega
    · exact hsh.new l _ hl (by omega) hx
    · have := onB_inj hl hx; omega
  · rintro l b hl hb (hx | hx)
    · exact hsh.new l b hl (by have := h7.size; omega) hx
    · have := onB_inj hl hx; have := h7.size; omega
  · rintro b ⟨a, x, _⟩
    have := hlt a b x; omega
  · rintro a b (x | ⟨rfl, rfl⟩)
    · have := hlt a b x; omega
    · omega
  · rintro b ⟨a, x, y⟩
    have := hlt a b x
    refine ⟨by have := h7.size; omega, h7.rel a b x, ?_, by omega⟩
    rintro ⟨a', x', y'⟩
    obtain rfl := hw.inj' a a' b (.inl x) (.inl x')
    exact y' y
set_option maxHeartbeats 4000000 in
set_option maxRecDepth 100000 in
theorem go_child {Fin : Goroutine → World → Prop} (hw : WRel (SF fsF) K R Try.prog.globals.size St w W) (hW0 : W0.heap.size ≤ W.heap.size) (hs : srcOk w A src) (hlo : ∀ b, src = some b → Try.prog.globals.size ≤ b.rb) (hslc : Slc w 0 w.heap.size 7 A n cap (recs rs)) (hn : n ≤ 1048576)
    (hA : OaR R A A') {W7 : World} (h7 : F4 R W0 W (.slice A' n cap) W7) (hl7 : WgLive wgl.tWg (W.heap.size + 3) W7) :
    BehE Try.prog wgl.tWg (W.heap.size + 3) (pipe (W.heap.size + 1) n (recVal rs)) Fin false (.usr (.sd 0)) 0 (tauC R St src W0 W) (born Try.prog { target := .fn (.func 55) #[.pointer (some ⟨W.heap.size + 3, 0, none⟩), .pointer (some ⟨W.heap.size + 2, 0, none⟩), .pointer (some ⟨W.heap.size, 0, none⟩)], args := #[] }) W7 := by
  have hrs : rs.length = n := hslc.recLen
  have hlt : ∀ a b, R a b → b < W.heap.size := fun a b x => (hw.lt a b (.inl x)).2
  obtain ⟨b', hR⟩ : ∃ b', ∀ b, src = some b → R b.rb b' := by
    cases src with
    | none => exact ⟨0, fun b e => by cases e⟩
    | some b =>
      obtain ⟨rfl, _, _⟩ := hs
      cases hA with
      | some x => cases x with | mk x => exact ⟨_, fun b e => by cases e; exact x⟩
  have hntm : (Try.f55).ntmps = 15 := rfl
  refine beh_silent rfl rfl (fun W₁ s => born_stepG (c := bodyEC) Try.func55 (by decide) rfl W₁) fun W₁ s => ?_
  obtain ⟨St', hrel, hst⟩ := child_rel (W4 := W7) (n := n) (cap := cap) (Tc := 76) (Ts := 25) hw hs hR hlo hA rfl rfl rfl h7.rel (by have := h7.size; omega) h7.b2 h7.b0
  have ht : Terra (tauC R St src W0 W) (relC w src b' W.heap.size (W.heap.size + 2)) St' := fun a b x => by
    refine ⟨fun _ => ?_, fun z => absurd (hst a b x) z⟩
    cases src with
    | none =>
      rcases x with (x | ⟨_, rfl⟩) | ⟨_, rfl⟩
      · exact x.elim
      · exact .inr (.inr (.inr rfl))
      · exact .inr (.inr (.inl rfl))
    | some b0 =>
      rcases x with ((x | ⟨_, rfl⟩) | ⟨_, rfl⟩) | ⟨_, rfl⟩
      · exact x.elim
      · exact .inr (.inr (.inr rfl))
      · exact .inr (.inl ⟨b0.rb, hR b0 rfl, .inr ⟨b0, rfl, rfl⟩⟩)
      · exact .inr (.inr (.inl rfl))
  have hB := each_child (Wg := W.heap.size + 3) (c := W.heap.size + 1) (Fin := Fin) (K := P0.add w.heap.size (W.heap.size + 1)) (St := St') (.inr ⟨rfl, rfl⟩) hrs hn (chw_ghost hs hslc)
  have hrel1 := Cx.Rel.suf (C := childCx (W.heap.size + 3) (W.heap.size + 1) n (recVal rs) Fin (P0.add w.heap.size (W.heap.size + 1)) St') hrel ht s
  have hgv : VR (SF fsF) (P0.add w.heap.size (W.heap.size + 1)) (relC w src b' W.heap.size (W.heap.size + 2)) (.pointer (some ⟨w.heap.size + 1, 0, none⟩)) (.pointer (some ⟨W.heap.size + 2, 0, none⟩)) := by
    refine .pointer (.some (.mk ?_))
    cases src with
    | none => exact .inl (.inr ⟨rfl, rfl⟩)
    | some b => exact .inl (.inl (.inr ⟨rfl, rfl⟩))
  have hgr : VR (SF fsF) (P0.add w.heap.size (W.heap.size + 1)) (relC w src b' W.heap.size (W.heap.size + 2)) (.pointer (some ⟨numC w src, 0, none⟩)) (.pointer (some ⟨W.heap.size, 0, none⟩)) := by
    refine .pointer (.some (.mk ?_))
    cases src with
    | none => exact .inr ⟨rfl, rfl⟩
    | some b => exact .inr ⟨rfl, rfl⟩
  have hj : ∀ x, Tt.Hid x → VR (SF fsF) (P0.add w.heap.size (W.heap.size + 1)) (relC w src b' W.heap.size (W.heap.size + 2)) .nilFunc x := fun x h => .junk h
  have vu := vr_undef (S := SF fsF) (K := P0.add w.heap.size (W.heap.size + 1)) (R := relC w src b' W.heap.size (W.heap.size + 2))
  have hC15 : (#[] ++ #[.pointer (some ⟨W.heap.size + 3, 0, none⟩), .pointer (some ⟨W.heap.size + 2, 0, none⟩), .pointer (some ⟨W.heap.size, 0, none⟩)]) ++ Array.replicate ((Try.f55).ntmps - (#[] ++ #[.pointer (some ⟨W.heap.size + 3, 0, none⟩), .pointer (some ⟨W.heap.size + 2, 0, none⟩), .pointer (some ⟨W.heap.size, 0, none⟩)] : Array Value).size) undef
      = (#[.pointer (some ⟨W.heap.size + 3, 0, none⟩), .pointer (some ⟨W.heap.size + 2, 0, none⟩), .pointer (some ⟨W.heap.size, 0, none⟩), undef, undef, undef, undef, undef, undef, undef, undef, undef, undef, undef, undef] : Array Value) := by rw [hntm]; rfl
  rw [hC15]
  have hlive1 := s.live hl7
  refine hB (relC w src b' W.heap.size (W.heap.size + 2)) W₁ ⟨55, #[.pointer (some ⟨W.heap.size + 3, 0, none⟩), .pointer (some ⟨W.heap.size + 2, 0, none⟩), .pointer (some ⟨W.heap.size, 0, none⟩), undef, undef, undef, undef, undef, undef, undef, undef, undef, undef, undef, undef], [.code bodyEC], false⟩ (tauC R St src W0 W) hrel1 ⟨rfl, rfl, rfl, ?_, fun x hx => ?_⟩ ht ⟨rfl, fun x => x.elim, by have := s.size; have := h7.size; omega, hlive1⟩
  · exact ((((((((((((((ArR.empty.push (hj _ (by exact True.intro))).push hgv).push hgr).push vu).push vu).push vu).push vu).push vu).push vu).push vu).push vu).push vu).push vu).push vu).push vu
  · obtain rfl := List.mem_singleton.1 hx
    rfl
end
end Go.Proofs.Ytjcpjijihajopaa
