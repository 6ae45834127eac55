/-
  The program's WaitedMinutes, judged whole.
-/
import Derived.Test.YtjcpjijihajopaaWaitI
import Derived.Test.YtjcpjijihajopaaBusyJ
set_option linter.unusedSectionVars false
set_option linter.unusedSimpArgs false
set_option linter.unusedVariables false
namespace Go.Proofs.Ytjcpjijihajopaa
open Go.RowKit Go.Mt Go.Conc Go.Tt Go.Maps
set_option linter.unusedVariables false
abbrev oW0 : Oper := ⟨some 21, .move (.tmp 0), 25, "l8_bills.go:198", #[], none⟩
abbrev oW1 : Oper := ⟨some 22, .makeFunc (.func 39) #[] #[.tmp 5, .tmp 7], 61, "l8_bills.go:198", #[], none⟩
abbrev oW2 : Oper := ⟨some 23, .call ⟨.value (.func 35), #[.tmp 21, .tmp 22], #[25, 61]⟩, 0, "l8_bills.go:198", #[{ on := 0, ground := Ground.data }, { on := 1, ground := Ground.data }], none⟩
theorem ops4W_0 : ops4W[0]? = some oW0 := rfl
theorem ops4W_1 : ops4W[1]? = some oW1 := rfl
theorem ops4W_2 : ops4W[2]? = some oW2 := rfl
section
variable {St : Nat → Prop} {W0 : World} {Post : Value → World → Prop}
set_option maxHeartbeats 4000000 in
set_option maxRecDepth 100000 in
theorem jo_wait {m : Fm} {ms : List Fm} {w : World} {ops : Array Oper} {i : Nat} {rest : List Nat} {k : List Item} {o : Oper} {args : Array Operand} {ats : Array TypeId} {A : Option Addr} {n cap : Nat} {l q : Int} {rs : List RecD} {src : Option Blk}
    (hr : m.ret = false) (hfn : inL olL m.fn = false) (htd : m.todo = .inRegion ops (i :: rest) :: k) (ho : ops[i]? = some o) (hwt : Region.wanted o (yielded ops m.tmps) = true) (hop : o.op = .call ⟨.value (.func 15), args, ats⟩)
    (hv : args.map m.eval = #[.slice A n cap, .int .i64 l, .int .i64 q]) (hs : srcOk w A src) (hlo : ∀ b, src = some b → Try.prog.globals.size ≤ b.rb) (hslc : Slc w 0 w.heap.size 7 A n cap (recs rs)) (hn : n ≤ 1048576)
    (hJ : ∀ w', Bl w.heap.size w w' → JE St W0 Post (m.fin ops i rest k (.int .i64 (waitM rs l q))) ms w') : JE St W0 Post m ms w := by
  have L := lvF
  have hback : ∀ (tmps : Array Value) (td : List Item) (v : Value) (w' : World), tmps.getD 6 undef = v → Bl w.heap.size w w' → v = .int .i64 (waitM rs l q) → JE St W0 Post ⟨15, tmps, td, true⟩ (m :: ms) w' := by
    intro tmps td v w' h6 hb hvv
    refine JO.back L (v := v) rfl htd (fnx := Try.f15) Try.func15 ?_ hfn (hvv ▸ hJ w' hb)
    show (resOne tmps (.tmp 6)).run _ _ = _
    simp only [resOne, Pure.pure, Sem.run, h6]
  have hfo : inL olL 15 = false := by kernel_rfl
  have hbb : (Try.f15).body = some bodyWM := rfl
  have hnn : ((Try.f15).name == "runtime.NumGoroutine") = false := by decide
  have hcn := JO.callN (St := St) (W0 := W0) (Post := Post) (ms := ms) (w := w) (fn := Try.f15) (c := bodyWM) L hr htd ho hwt hop hfo
  refine hcn Try.func15 hnn hbb ?_
  rw [hv]
  have hent : (#[.slice A n cap, .int .i64 l, .int .i64 q] : Array Value) ++ Array.replicate ((Try.f15).ntmps - (#[.slice A n cap, .int .i64 l, .int .i64 q] : Array Value).size) undef = #[.slice A n cap, .int .i64 l, .int .i64 q, undef, undef, undef, undef, undef, undef, undef, undef, undef, undef, undef, undef, undef, undef, undef, undef, undef, undef, undef, undef, undef, undef, undef, undef] := by
    have e : (Try.f15).ntmps = 27 := rfl
    rw [e]
    apply Array.ext'
    simp only [Array.toList_append, Array.toList_replicate, List.size_toArray, List.length_cons, List.length_nil]
    rfl
  rw [hent, bodyWM_eq]
  have hsrc : ∀ b, src = some b → b.rb < w.heap.size := fun b e => by subst e; exact (Array.getElem?_eq_some_iff.1 hs.2.1).1
  refine JO.seq L hfo ?_
  refine JO.piece L (by kernel_rfl) hfo (fun T => ?_)
  refine wpWM0 ⟨rfl, ?_⟩
  obtain ⟨g5, hg5⟩ : ∃ g, g = w.heap.size := ⟨_, rfl⟩
  have B1 : Bl w.heap.size w ((Tt.tp w T 0).alloc (.cells #[.int .i64 q] 3)) := ((Bl.refl _ w).tp T 0).al (Nat.le_refl _) _
  have h5 : ((Tt.tp w T 0).alloc (.cells #[.int .i64 q] 3)).heap[g5]? = some (.cells #[.int .i64 q] 3) := by rw [hg5]; exact heap_push (Tt.tp w T 0) _
  have e5 : (Tt.tp w T 0).heap.size = g5 := hg5.symm
  rw [e5]
  generalize (Tt.tp w T 0).alloc (.cells #[.int .i64 q] 3) = w1 at B1 h5 ⊢
  refine JO.seq L hfo ?_
  refine JO.seq L hfo ?_
  obtain ⟨t, ht⟩ : ∃ t, t = (clockB rs q && inB l 1 99) := ⟨_, rfl⟩
  refine JO.piece L (by kernel_rfl) hfo (fun T => ?_)
  have B1t := B1.tp T 0
  have h5t : (Tt.tp w1 T 0).heap[g5]? = some (.cells #[.int .i64 q] 3) := h5
  refine wpWM1 (t := t) (hslc.bl B1t) hn h5t ht (fun u8 u9 u10 u11 u12 u13 u14 u15 u16 u17 u18 w2 b2 => ⟨rfl, ?_⟩)
  have B2 := B1t.below b2 (Nat.le_refl _)
  have h52 := (blk_below b2 h5t).1
  clear B1 B1t h5 h5t b2
  cases t with
  | false =>
    have hm : waitM rs l q = -1 := by
      unfold waitM
      rw [if_neg]
      rintro ⟨x, y, z⟩
      rw [x] at ht
      simp [inB, y, z] at ht
    refine JO.cond L (t := true) hfo rfl ?_
    refine JO.seq L hfo ?_
    refine JO.piece L (by kernel_rfl) hfo (fun T => ?_)
    refine wpWM2 ⟨rfl, ?_⟩
    refine JO.ret L hfo ?_
    exact hback _ _ (.int .i64 (-1)) _ rfl (B2.tp T 0) (by rw [hm])
  | true =>
    have hcl : clockB rs q = true ∧ 1 ≤ l ∧ l ≤ 99 := by simpa [inB] using ht.symm
    have hm : waitM rs l q = sumR (waitF l q) rs := by unfold waitM; rw [if_pos hcl]
    refine JO.cond L (t := false) hfo rfl ?_
    refine JO.skip L hfo ?_
    refine JO.seq L hfo ?_
    refine JO.piece L (by kernel_rfl) hfo (fun T => ?_)
    have B2t := B2.tp T 0
    have h52t : (Tt.tp w2 T 0).heap[g5]? = some (.cells #[.int .i64 q] 3) := h52
    generalize Tt.tp w2 T 0 = w3 at B2t h52t ⊢
    clear B2 h52
    refine wpWM3 ⟨rfl, ?_⟩
    have hz3 := B2t.size
    have hlt5 := blk_lt h52t
    obtain ⟨gm, hgm⟩ : ∃ g, g = w3.heap.size := ⟨_, rfl⟩
    have B3 := (B2t.al (Nat.le_refl _) (.map #[] 0)).al (Nat.le_refl _) (.cells #[.map (some w3.heap.size)] 59)
    have h53 := blk_alloc (blk_alloc h52t (.map #[] 0)) (.cells #[.map (some w3.heap.size)] 59)
    have e1 : (w3.alloc (.map #[] 0)).heap.size = gm + 1 := by rw [size_push, hgm]
    have h73 : ((w3.alloc (.map #[] 0)).alloc (.cells #[.map (some w3.heap.size)] 59)).heap[gm + 1]? = some (.cells #[.map (some gm)] 59) := by rw [← e1, heap_push, hgm]
    have hm3 : SumsM ((w3.alloc (.map #[] 0)).alloc (.cells #[.map (some w3.heap.size)] 59)) gm 0 (.map []) := by
      rw [hgm]; exact (World.ownsMap_made w3 _ _ _).alloc _
    have hlt3 : gm + 1 < ((w3.alloc (.map #[] 0)).alloc (.cells #[.map (some w3.heap.size)] 59)).heap.size := blk_lt h73
    rw [← hgm] at B3 h53 h73 hm3 hlt3 ⊢
    rw [← hgm] at hz3 hlt5
    generalize (w3.alloc (.map #[] 0)).alloc (.cells #[.map (some gm)] 59) = w4 at B3 h53 h73 hm3 hlt3 ⊢
    clear B2t h52t
    refine JO.seq L hfo ?_
    rw [rWM4_eq]
    refine JO.reg L hfo ?_
    rw [ops4W_range]
    refine JO.opv L (v := .slice A n cap) hfo ops4W_0 rfl (fun T e => rfl) ?_
    simp only [Go.Act.put, List.setIfInBounds_toArray, List.set_cons_zero, List.set_cons_succ]
    refine JO.opv L (v := .func (.func 39) #[] #[.pointer (some ⟨g5, 0, none⟩), .pointer (some ⟨gm + 1, 0, none⟩)]) hfo ops4W_1 rfl (fun T e => (exec_makeFunc (f := 39) (first := #[]) (cap := #[.tmp 5, .tmp 7]) rfl _).trans (by simp [Go.Act.eval])) ?_
    simp only [Go.Act.put, List.setIfInBounds_toArray, List.set_cons_zero, List.set_cons_succ]
    have hI := waitI (B := w.heap.size) (wb := ghostM w4 src 76) (g5 := g5) (g7 := gm + 1) (gm := gm) hcl.1 (by omega) (by omega) ⟨by omega, by rw [ghostM_size]; have := B3.size; omega⟩
    refine jo_each (ops := ops4W) (i := 2) (o := oW2) (src := src) (rs := rs) (f := 39) (capt := #[.pointer (some ⟨g5, 0, none⟩), .pointer (some ⟨gm + 1, 0, none⟩)]) rfl rfl ops4W_2 rfl rfl (by kernel_rfl) (by simp [Fm.eval]) (srcOk_bl hs B3) hlo (hslc.bl B3) hn hI (by kernel_rfl) ?_ (fun wn hin => ?_)
    · have hne : ∀ x, w.heap.size ≤ x → ∀ b, src = some b → b.rb ≠ x := fun x hx b e e2 => by have := hsrc b e; omega
      refine ⟨?_, ?_, ⟨_, ?_, isMap_empty, fun l => ?_⟩, Nat.le_refl _, fun _ _ => rfl⟩
      · rw [ghostM_at (by omega) (hne _ (by omega))]; exact h53
      · rw [ghostM_at (by omega) (hne _ (by omega))]; exact h73
      · obtain ⟨es, cl, hb, F, hsz, hD⟩ := hm3
        exact ⟨es, cl, (ghostM_at (by omega) (hne _ (by omega))).trans hb, F, hsz, hD⟩
      · simp [sumR]; rfl
    · have hne : ∀ x, w.heap.size ≤ x → ∀ b, src = some b → b.rb ≠ x := fun x hx b e e2 => by have := hsrc b e; omega
      have hwz := hin.size
      rw [ghostM_size] at hwz
      have B5 := thaw_bl (srcOk_bl hs B3) B3 (Nat.le_refl _) hin.old (by omega) hsrc
      have h75 : (thaw wn src).heap[gm + 1]? = some (.cells #[.map (some gm)] 59) := (thaw_at (hne _ (by omega))).trans hin.c7
      obtain ⟨D, hD1, _, hD3⟩ := hin.m
      have hm5 : SumsM (thaw wn src) gm n D := by
        obtain ⟨es, cl, hb, F, hsz, hD⟩ := hD1
        exact ⟨es, cl, (thaw_at (hne _ (by omega))).trans hb, F, hsz, hD⟩
      have hq := hD3 l
      rw [List.take_of_length_le (by rw [hslc.recLen]; exact Nat.le_refl _)] at hq
      simp only [Fm.fin, ops4W_2, Option.bind_some, List.setIfInBounds_toArray, List.set_cons_zero, List.set_cons_succ]
      refine JO.regEnd L hfo ?_
      refine JO.seq L hfo ?_
      refine JO.piece L (by kernel_rfl) hfo (fun T => ?_)
      have B5t := B5.tp T 0
      have h75t : (Tt.tp (thaw wn src) T 0).heap[gm + 1]? = some (.cells #[.map (some gm)] 59) := h75
      have hm5t : SumsM (Tt.tp (thaw wn src) T 0) gm n D := hm5
      refine wpWM5 hm5t h75t hcl.2 hq (fun u24 u25 u26 => ⟨rfl, ?_⟩)
      refine JO.ret L hfo ?_
      exact hback _ _ (.int .i64 (sumR (waitF l q) rs)) _ rfl B5t (by rw [hm])
end
end Go.Proofs.Ytjcpjijihajopaa
