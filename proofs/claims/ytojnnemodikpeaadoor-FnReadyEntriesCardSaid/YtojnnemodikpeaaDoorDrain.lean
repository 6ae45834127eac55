/-
  The switchboard: drain.
-/
import Derived.Test.YtojnnemodikpeaaDoorImplR
import Derived.Test.YtojnnemodikpeaaDoorLeftM
import Derived.Test.YtojnnemodikpeaaDoorUni
namespace Go.Proofs.YtojnnemodikpeaaDoor
open Go.RowKit Go.Conc
set_option linter.unusedVariables false
theorem make_intss (n : Nat) (hn : n ≤ 1048576) : ∃ cs : Array Value, cs.size = n ∧ ∀ w : World, (Instr.makeSlice 41 (.int .i64 0) (.int .i64 (n : Int))).run Tryd.prog w = .ok (.slice (some ⟨w.heap.size, 0, none⟩) 0 n) (w.alloc (.cells cs 22)) := by
  obtain ⟨i, hi, hz, hs, hb⟩ := info_parts info_ints
  refine ⟨madeCells (Value.cells (.slice none 0 0)) (n * 1), by rw [size_madeCells]; omega, fun w => ?_⟩
  have := run_make (P := Tryd.prog) w 41 22 i _ Tryd.underlying41 hi hz .i64 .i64 0 n (by omega) (by omega) (by rw [hb]; omega) (by omega)
  rw [hs] at this
  exact this
/-- One channel's buffer has changed, nothing else of the switchboard. -/
theorem SwOk.heldTo {w : World} {base : Nat} {S : Sw} {ls : List Ln} (h : SwOk w base S ls) {i c : Nat} {l : Ln} (hc : S.cs[i]? = some c) (hl : ls[i + 1]? = some l) {w' : World} {s r : Nat} {xs : List Int}
    (hk : ∀ b, b < w.heap.size → b ≠ c → w'.heap[b]? = w.heap[b]?) (hch : w'.heap[c]? = some (.chan l.room.toNat (ints xs).toArray l.ended s r false)) : SwOk w' base S (ls.set (i + 1) { l with held := xs }) := by
  obtain ⟨b1, b2, s0, r0, hc0⟩ := h.chans i c l hc hl
  obtain ⟨g1, arr, g2, _⟩ := row_blk h.lines
  obtain ⟨q1, cps, ⟨es, clk, hm0, hm9⟩, q4⟩ := h.closed
  obtain ⟨t1, tps, ⟨es2, clk2, hm2, he2⟩, t3, t4⟩ := h.taken
  have hil := (List.getElem?_eq_some_iff.1 hl).1
  have K : ∀ {b : Nat} {o : Obj}, w.heap[b]? = some o → (∀ cap buf cl s r tm, o ≠ .chan cap buf cl s r tm) → w'.heap[b]? = some o := fun {b o} hb ho => by
    rw [hk b (blk_lt hb) (blk_ne hb hc0 (ho _ _ _ _ _ _))]; exact hb
  have hin : ∀ {j : Nat} {c' : Nat} {l' : Ln}, S.cs[j]? = some c' → (ls.set (i + 1) { l with held := xs })[j + 1]? = some l' → ∃ l0, ls[j + 1]? = some l0 ∧ l'.ended = l0.ended ∧ l'.taken = l0.taken ∧ l'.room = l0.room ∧ (j ≠ i → l' = l0) ∧ (j = i → l'.held = xs ∧ l0 = l) := by
    intro j c' l' hj hl'
    by_cases e : j = i
    · subst e
      rw [List.getElem?_set_self hil] at hl'
      injection hl' with hl'; subst hl'
      exact ⟨l, hl, rfl, rfl, rfl, fun h => absurd rfl h, fun _ => ⟨rfl, rfl⟩⟩
    · rw [List.getElem?_set_ne (by omega)] at hl'
      exact ⟨l', hl', rfl, rfl, rfl, fun _ => rfl, fun h => absurd h e⟩
  refine ⟨K h.st (by simp), h.sb, row_at h.lines ((K g2 (by simp)).trans g2.symm), by rw [List.length_set]; exact h.len, by rw [List.getElem?_set_ne (by omega)]; exact h.head, fun j c' l' hj hl' => ?_, h.nodup, ⟨q1, cps, ⟨es, clk, K hm0 (by simp), hm9⟩, fun j c' l' hj hl' => ?_⟩, ⟨t1, tps, ⟨es2, clk2, K hm2 (by simp), he2⟩, fun j c' l' hj hl' => ?_, t4⟩, h.ne⟩
  · obtain ⟨l0, hl0, e1, e2, e3, e4, e5⟩ := hin hj hl'
    by_cases e : j = i
    · subst e
      obtain ⟨e6, rfl⟩ := e5 rfl
      rw [hc] at hj; injection hj with hj; subst hj
      exact ⟨b1, by rw [e3]; exact b2, s, r, by rw [e3, e6, e1]; exact hch⟩
    · have := e4 e
      subst this
      obtain ⟨d1, d2, s1, r1, hd⟩ := h.chans j c' l' hj hl0
      have hne : c' ≠ c := by
        rintro rfl
        exact e ((List.getElem?_inj (List.getElem?_eq_some_iff.1 hj).1 h.nodup).1 (hj.trans hc.symm))
      exact ⟨d1, d2, s1, r1, by rw [hk _ (blk_lt hd) hne]; exact hd⟩
  · obtain ⟨l0, hl0, e1, _⟩ := hin hj hl'
    rw [e1]; exact q4 j c' l0 hj hl0
  · obtain ⟨l0, hl0, _, e2, _⟩ := hin hj hl'
    rw [e2]
    rcases t3 j c' l0 hj hl0 with hx | ⟨g, n, cc, x1, x2⟩
    · exact .inl hx
    · obtain ⟨_, cur, k2, _⟩ := row_blk x2
      exact .inr ⟨g, n, cc, x1, row_at x2 ((K k2 (by simp)).trans k2.symm)⟩
set_option maxRecDepth 20000 in
set_option maxHeartbeats 2000000 in
/-- end, with what it leaves as it was. -/
theorem end_at {w : World} {base : Nat} {S : Sw} {ls : List Ln} (h : SwOk w base S ls) {i c : Nat} {l : Ln} (hc : S.cs[i]? = some c) (hl : ls[i + 1]? = some l) (he : l.ended = false) (hcs : S.cs.length ≤ 6) :
    Calls Tryd.prog 90 #[.pointer (some ⟨S.sp, 0, none⟩), .int .i64 ((i : Int) + 1)] w fun e w' => e = .returned (.tuple #[]) ∧ SwOk w' base S (ls.set (i + 1) { l with ended := true }) ∧ Below base w w' ∧ w'.heap.size = w.heap.size ∧ (∀ b, b ≠ c → b ≠ S.mc → w'.heap[b]? = w.heap[b]?) := by
  obtain ⟨b1, b2, s0, r0, hch⟩ := h.chans i c l hc hl
  rw [he] at hch
  obtain ⟨m1, ps, hm, hps⟩ := h.closed
  obtain ⟨es, clk, hm0, hm9⟩ := hm
  have hic := (List.getElem?_eq_some_iff.1 hc).1
  have hne := blk_ne h.st hch (by simp)
  have hmc := blk_ne hm0 hch (by simp)
  have ec := blk_cell h.st
  have eg := row_cells (j := i + 1) (v := .chan (some c)) h.lines (by simp [Sw.lines, hc])
  have hcl := fun ats ty => run_close_open (P := Tryd.prog) (w := w) ats ty hch
  have hsp : ({ w with heap := w.heap.setIfInBounds c (.chan l.room.toNat (ints l.held).toArray true s0 r0 false) } : World).heap[S.sp]? = _ := (heap_set_ne (fun e => hne e.symm)).trans h.st
  have ec1 := blk_cell hsp
  have hM1 : ChanMap { w with heap := w.heap.setIfInBounds c (.chan l.room.toNat (ints l.held).toArray true s0 r0 false) } S.mc ps := ⟨es, clk, (heap_set_ne (fun e => hmc e.symm)).trans hm0, hm9⟩
  have HM1 := Lib.hid hM1
  have HH := Lib.hid (And.intro h (And.intro hc (And.intro hl (And.intro hch (And.intro (show ChanMap w S.mc ps from ⟨es, clk, hm0, hm9⟩) (And.intro hps (And.intro hne (And.intro hmc (blk_lt hm0)))))))))
  have i0 : (0 : Int) ≤ (i : Int) + 1 := by omega
  have i1 : (i : Int) + 1 < (S.cs.length : Int) + 1 := by omega
  have hz := blk_lt hch
  clear hM1 hsp hm0 hm9 hps h hc hl hch
  go_enter Tryd.func90, Tryd.ntmps90
  go_wp2_with (at_mapUpdate; refine wpList_update_chan _ rfl (.tmp 16) (.tmp 17) (.tmp 18) 77 rfl 3 Tryd.underlying77 und_chan S.mc c _ ps rfl rfl rfl HM1.out ?_; intro w2 o2 hw2 hcm2; have HW2 := Lib.hid hw2; have HC2 := Lib.hid hcm2; clear hw2 hcm2)
  obtain ⟨h, hc, hl, hch, hm, hps, hne, hmc, hmz⟩ := HH.out
  have hw2 := HW2.out
  have hout : ∀ b, b ≠ c → b ≠ S.mc → w2.heap[b]? = w.heap[b]? := fun b h1 h2 => by
    rw [hw2]
    simp only
    rw [Array.getElem?_setIfInBounds_ne (fun e => h2 e.symm), Array.getElem?_setIfInBounds_ne (fun e => h1 e.symm)]
  refine ⟨rfl, .tuple #[], ?_, rfl, ?_, ?_, ?_, hout⟩
  · simp [results, Tryd.results90, go_sem]
  · refine h.ended hc hl (v := _) (s := s0) (r := r0) hout ?_ hm hps HC2.out
    rw [hw2]
    simp only
    rw [Array.getElem?_setIfInBounds_ne hmc, Array.getElem?_setIfInBounds_self_of_lt hz]
  · rw [hw2]
    exact below_set (w := { w with heap := w.heap.setIfInBounds c (.chan l.room.toNat (ints l.held).toArray true s0 r0 false) }) (below_set (Below.refl _ _) b1) m1
  · rw [hw2]; simp
theorem ints_extract (x : Int) (xs : List Int) : ((ints (x :: xs)).toArray).extract 1 ((ints (x :: xs)).toArray).size = (ints xs).toArray := by
  apply Array.toList_inj.1
  rw [Array.toList_extract]
  simp [ints, List.take_of_length_le]
theorem map_held_succ {ls : List Ln} {i : Nat} {l : Ln} (h : ls[i + 1]? = some l) : ((ls.drop 1).take (i + 1)).map Ln.held = ((ls.drop 1).take i).map Ln.held ++ [l.held] := by
  have h' : (ls.drop 1)[i]? = some l := by rw [List.getElem?_drop, Nat.add_comm]; exact h
  obtain ⟨hk1, e⟩ := List.getElem?_eq_some_iff.1 h'
  rw [List.take_succ_eq_append_getElem hk1, e, List.map_append]; rfl
/-- The switchboard stands where all blocks but the new ones and one of slices stand. -/
theorem SwOk.stands {w w' : World} {base g : Nat} {S : Sw} {ls : List Ln} {cs : Array Value} (h : SwOk w base S ls) (hg : w.heap[g]? = some (.cells cs 22)) (k : ∀ b, b < w.heap.size → b ≠ g → w'.heap[b]? = w.heap[b]?) : SwOk w' base S ls := by
  have kk : ∀ (b : Nat) (o : Obj), w.heap[b]? = some o → (∀ cs fz, o ≠ .cells cs 22 fz) → w'.heap[b]? = some o := fun b o hb ho => (k b (blk_lt hb) (by rintro rfl; rw [hg] at hb; injection hb with hb; exact ho _ _ hb.symm)).trans hb
  obtain ⟨g1, arr, g2, _⟩ := row_blk h.lines
  obtain ⟨q1, cps, ⟨es, clk, e1, e2⟩, q4⟩ := h.closed
  obtain ⟨t1, tps, ⟨es2, clk2, f1, f2⟩, t3, t4⟩ := h.taken
  refine ⟨kk _ _ h.st (by simp), h.sb, row_at h.lines ((kk _ _ g2 (by simp)).trans g2.symm), h.len, h.head, fun i c l hc hl => ?_, h.nodup, ⟨q1, cps, ⟨es, clk, kk _ _ e1 (by simp), e2⟩, q4⟩, ⟨t1, tps, ⟨es2, clk2, kk _ _ f1 (by simp), f2⟩, fun i c l hc hl => ?_, t4⟩, h.ne⟩
  · obtain ⟨d1, d2, s, r, hd⟩ := h.chans i c l hc hl
    exact ⟨d1, d2, s, r, kk _ _ hd (by simp)⟩
  · rcases t3 i c l hc hl with hx | ⟨g, n, cc, x1, x2⟩
    · exact .inl hx
    · obtain ⟨_, cur, k2, _⟩ := row_blk x2
      exact .inr ⟨g, n, cc, x1, row_at x2 ((kk _ _ k2 (by simp)).trans k2.symm)⟩
set_option maxRecDepth 20000 in
set_option maxHeartbeats 8000000 in
theorem drain_any {w : World} {base : Nat} {S : Sw} {ls : List Ln} (h : SwOk w base S ls) (hw : base ≤ w.heap.size) (hcs : S.cs.length ≤ 6) (hsm : ∀ l ∈ ls, l.held.length ≤ 1000) :
    Calls Tryd.prog 69 #[.pointer (some ⟨S.sp, 0, none⟩)] w fun e w' => ∃ c rs, e = .returned (.slice (some ⟨w.heap.size, 0, none⟩) S.cs.length c) ∧ Slc w' w.heap.size (w.heap.size + 1) 1 (some ⟨w.heap.size, 0, none⟩) S.cs.length c (rs.map Row.val) ∧ RowsIn w' (w.heap.size + 1) w'.heap.size rs ∧ rs.map Row.xs = (ls.drop 1).map Ln.held ∧ Below base w w' := by
  have HSM := Lib.hid hsm
  obtain ⟨cs0, hcs0, hmk⟩ := make_intss S.cs.length (by omega)
  have HC0 := Lib.hid hcs0
  have hmw := hmk w
  have ec := blk_cell h.st
  have zs := blk_lt h.st
  have hst2 := blk_alloc h.st (.cells cs0 22)
  have ec2 := blk_cell hst2
  have zs2 := blk_lt hst2
  have HS := Lib.hid h
  have hwz := blk_lt h.st
  clear hsm hcs0 hmk hst2
  go_enter Tryd.func69, Tryd.ntmps69
  go_wp2
  go_loopw [3, 20] (fun v i wr => ∃ (k : Nat) (rs : List Row) (la : List Ln), k ≤ S.cs.length + 1 ∧ i = .int .i64 k ∧ v = .slice (some ⟨w.heap.size, 0, none⟩) (k - 1) S.cs.length ∧ wr.ownsRow w.heap.size 22 1 (.slice (some ⟨w.heap.size, 0, none⟩) (k - 1) S.cs.length) (k - 1) (rs.map Row.val) ∧ RowsIn wr (w.heap.size + 1) wr.heap.size rs ∧ rs.map Row.xs = ((ls.drop 1).take (k - 1)).map Ln.held ∧ rs.length = k - 1 ∧ SwOk wr base S la ∧ (∀ j, k ≤ j → la[j]? = ls[j]?) ∧ Below base w wr) (fun _ i _ => S.cs.length + 1 - (intOf i).toNat)
  case atStart =>
    exact ⟨0, [], ls, Nat.zero_le _, rfl, rfl, row_cap (Nat.le_refl _) (heap_alloc_new _ _) HC0.out (by unfold maxLen; omega), by simp [RowsIn], rfl, rfl, HS.out.below (below_al (Below.refl _ _) _), fun _ _ => rfl, (below_al (Below.refl _ _) _).mono hw⟩
  case round =>
    obtain ⟨k, rs, la0, hk, rfl, rfl, hout, hrow, hxs, hrl, hsw, hrest, B⟩ := hrel
    by_cases hlt : k < S.cs.length + 1
    · have i0' : (0 : Int) ≤ (k : Int) := by omega
      have i1 : (k : Int) < (S.cs.length : Int) + 1 := by omega
      have ecr := blk_cell hsw.st
      have zsr := blk_lt hsw.st
      have zw := B.size
      rcases Nat.eq_zero_or_pos k with rfl | hkp
      · have eg := row_cells (j := 0) (v := .chan none) hsw.lines (by simp [Sw.lines])
        have hq := fun W => eql_chan none none W
        have HH := Lib.hid (And.intro hsw (And.intro hout (And.intro hrow (And.intro hxs (And.intro hrl (And.intro hrest B))))))
        clear hsw hout hrow hxs hrl hrest
        go_wp2
        go_roundw
        case rel =>
          obtain ⟨hsw, hout, hrow, hxs, hrl, hrest, B⟩ := HH.out
          exact ⟨1, rs, la0, by omega, by go_num, rfl, hout, hrow, hxs, hrl, hsw, fun j hj => hrest j (by omega), B⟩
        case measure => simp [intOf]
      · obtain ⟨i, rfl⟩ : ∃ i, k = i + 1 := ⟨k - 1, by omega⟩
        simp only [Nat.add_sub_cancel] at hout hxs hrl
        obtain ⟨c9, hc0⟩ : ∃ c9, S.cs[i]? = some c9 := ⟨_, List.getElem?_eq_getElem (by omega)⟩
        obtain ⟨l, hl0⟩ : ∃ l, ls[i + 1]? = some l := ⟨_, List.getElem?_eq_getElem (by rw [HS.out.len]; exact hlt)⟩
        have hla0 : la0[i + 1]? = some l := (hrest _ (Nat.le_refl _)).trans hl0
        have eg := row_cells (j := i + 1) (v := .chan (some c9)) hsw.lines (by simp [Sw.lines, hc0])
        have hq := fun W => eql_chan (some c9) none W
        have hc := Lib.hid hc0
        have hl := Lib.hid hl0
        have HX := Lib.hid (And.intro hxs hrl)
        have hcw : c9 < w.heap.size := by obtain ⟨_, _, _, _, hd⟩ := HS.out.chans i c9 l hc0 hl0; exact blk_lt hd
        have HW := Lib.hid (And.intro hsw (And.intro hla0 (And.intro hrest (And.intro hout (And.intro hrow B)))))
        obtain ⟨t, ht⟩ : ∃ t, t = l.ended := ⟨_, rfl⟩
        have HTE := Lib.hid ht
        have hmcw : S.mc < w.heap.size := by obtain ⟨_, _, ⟨_, _, e, _⟩, _⟩ := HS.out.closed; exact blk_lt e
        clear hsw hout hrow hxs hrl hrest hc0 hl0 hla0 ht
        cases t with
        | true =>
          go_wp2_with (go_at_call 70; refine (isEnded_any HW.out.1 hc.out HW.out.2.1).mono ?_; rintro e wa ⟨rfl, rfl⟩; rw [← HTE.out]; obtain ⟨l2, hl2⟩ : ∃ l2, l2 = l := ⟨_, rfl⟩; obtain ⟨la, hla⟩ : ∃ la, la = la0 := ⟨_, rfl⟩; have HA := Lib.hid (show SwOk wa base S la ∧ la[i + 1]? = some l2 ∧ l2.held = l.held ∧ l2.ended = true ∧ (∀ j, i + 2 ≤ j → la[j]? = ls[j]?) ∧ Below base w wa ∧ wa.ownsRow w.heap.size 22 1 (.slice (some ⟨w.heap.size, 0, none⟩) i S.cs.length) i (rs.map Row.val) ∧ RowsIn wa (w.heap.size + 1) wa.heap.size rs ∧ w.heap.size < wa.heap.size from by rw [hl2, hla]; obtain ⟨a1, a2, a3, a4, a5, a6⟩ := HW.out; exact ⟨a1, a2, rfl, HTE.out.symm, fun j hj => a3 j (by omega), a6, a4, a5, blk_lt (row_blk a4).2.choose_spec.1⟩))
          obtain ⟨hsa, hla, hhe, hte, hrest, hba, houta, hrowa, hza⟩ := HA.out
          obtain ⟨cb1, cb2, s0, r0, hcha⟩ := hsa.chans i c9 l2 hc.out hla
          rw [hte] at hcha
          have zc := blk_lt hcha
          have HCH := Lib.hid hcha
          obtain ⟨XS, hXS⟩ : ∃ XS, XS = l2.held := ⟨_, rfl⟩
          have hX8 : XS.length ≤ 1000 := by rw [hXS, hhe]; exact HSM.out _ (List.mem_of_getElem? hl.out)
          rw [← hXS] at hcha
          have HC2 := Lib.hid (And.intro hcha hXS)
          clear hsa hla hhe hte hrest hba houta hrowa hcha hXS
          go_wp2_with fail
          go_loopw [6] (fun v wr => ∃ (j g cI s r : Nat), j ≤ XS.length ∧ v = .slice (some ⟨g, 0, none⟩) j cI ∧ wr.ownsRow wa.heap.size 3 1 (.slice (some ⟨g, 0, none⟩) j cI) j (ints (XS.take j)) ∧ wr.heap[c9]? = some (.chan l2.room.toNat (ints (XS.drop j)).toArray true s r false) ∧ (∀ b, b < wa.heap.size → b ≠ c9 → wr.heap[b]? = wa.heap[b]?) ∧ wa.heap.size ≤ wr.heap.size ∧ wr.os = wa.os ∧ wr.tape = wa.tape ∧ wr.output = wa.output) (fun v _ => XS.length - (match v with | .slice _ n _ => n | _ => 0))
          case atStart => exact ⟨0, wa.heap.size, 0, s0, r0, Nat.zero_le _, rfl, row_empty (Nat.le_refl _) (heap_alloc_new _ _), blk_alloc HC2.out.1 _, fun b hb _ => Below.heap_alloc _ _ _ hb, by simp, rfl, rfl, rfl⟩
          case round =>
            obtain ⟨j, g2, cI, s1, r1, hj, rfl, hownI, hchq, hkq, hzq, ho1, ho2, ho3⟩ := hrel
            by_cases hjl : j < XS.length
            · obtain ⟨x, hx⟩ : ∃ x, XS[j]? = some x := ⟨_, List.getElem?_eq_getElem hjl⟩
              have hdr : XS.drop j = x :: XS.drop (j + 1) := drop_get hx
              have htk : XS.take (j + 1) = XS.take j ++ [x] := by
                obtain ⟨hk1, e⟩ := List.getElem?_eq_some_iff.1 hx
                rw [List.take_succ_eq_append_getElem hk1, e]
              rw [hdr] at hchq
              have HI2 := Lib.hid (And.intro hownI (And.intro hchq (And.intro hkq (And.intro htk (And.intro ho1 (And.intro ho2 ho3))))))
              have zcq := blk_lt hchq
              clear hownI hchq hkq hdr htk hx ho1 ho2 ho3
              go_upto_region 10 with fail
              refine wp_recv_buf (c := c9) (z := .int .i64 0) (ok := true) rfl rfl (by simp [go_sem, execOp, rcase, Act.eval]) HI2.out.2.1 (by simp [ints]) ?_
              rw [show ((ints (x :: XS.drop (j + 1))).toArray).getD 0 undef = .int .i64 x by simp [ints], show ∀ v, got true v true = .tuple #[v, .bool true] from fun _ => rfl]
              obtain ⟨wb, hwb⟩ : ∃ wb, wb = wr.setChan c9 l2.room.toNat (((ints (x :: XS.drop (j + 1))).toArray).extract 1 ((ints (x :: XS.drop (j + 1))).toArray).size) true s1 (r1 + 1) false := ⟨_, rfl⟩
              rw [← hwb]
              have hzb1 : wb.heap.size ≤ wr.heap.size := by rw [hwb]; simp [World.setChan]
              have hzb2 : wr.heap.size ≤ wb.heap.size := by rw [hwb]; simp [World.setChan]
              have hchb : wb.heap[c9]? = some (.chan l2.room.toNat (ints (XS.drop (j + 1))).toArray true s1 (r1 + 1) false) := by
                rw [hwb]; simp only [World.setChan]; rw [Array.getElem?_setIfInBounds_self_of_lt zcq, ints_extract]
              have hkb : ∀ b, b ≠ c9 → wb.heap[b]? = wr.heap[b]? := fun b hb => by
                rw [hwb]; simp only [World.setChan]; rw [Array.getElem?_setIfInBounds_ne (fun e => hb e.symm)]
              have hobs : wb.os = wr.os ∧ wb.tape = wr.tape ∧ wb.output = wr.output := by rw [hwb]; exact ⟨rfl, rfl, rfl⟩
              have hrowb : wb.ownsRow wa.heap.size 3 1 (.slice (some ⟨g2, 0, none⟩) j cI) j (ints (XS.take j)) := row_at HI2.out.1 (hkb g2 (by have := (row_blk HI2.out.1).1; omega))
              have HB2 := Lib.hid (And.intro hchb (And.intro hkb (And.intro hobs hrowb)))
              clear hwb hchb hkb hobs hrowb
              obtain ⟨q0, hq0, hqz0, hqz1, hqz2⟩ := info_parts info_int
              have HQ := Lib.hid hq0
              clear hq0
              go_wp2_with (at_builtin; go_loud (refine wpList_append_lies _ rfl (.tmp 39) (.tmp 41) 22 rfl wa.heap.size 3 q0 (.int .i64 0) 1 8 Tryd.underlying22 HQ.out hqz0 hqz1 hqz2 rfl (by decide) (.slice (some ⟨g2, 0, none⟩) j cI) j _ rfl (row_below' HB2.out.2.2.2 (below_al (Below.refl _ _) _)) ⟨_, 0, none⟩ 1 1 [.int .i64 x] rfl rfl (cell_one_new _ _ _) (by simp [Value.oneCell']) (by decide) (by unfold maxLen; omega) (by omega) (by simp; omega) _ rfl ?_; intro g3 c3n w5 hown3 hgr3 hat3 hlt3; have HO3 := Lib.hid hown3; have HG3 := Lib.hid hgr3; clear hown3 hgr3 hat3))
              go_roundw
              case rel =>
                have hgr := HG3.out
                have gb := (row_blk HI2.out.1).1
                have hs5 := hgr.size
                simp only [World.size_alloc] at hs5
                refine ⟨j + 1, g3, c3n, s1, r1 + 1, by omega, by go_num, ?_, ?_, ?_, by omega, ?_, ?_, ?_⟩
                · rw [HI2.out.2.2.2.1]; simpa [ints] using HO3.out
                · exact (hgr.block c9 (by simp; omega) (by simp [Value.ownBlock]; omega)).trans (blk_alloc HB2.out.1 _)
                · intro b hb hbc
                  exact (hgr.block b (by simp; omega) (by simp [Value.ownBlock]; omega)).trans ((Below.heap_alloc _ _ _ (by omega)).trans ((HB2.out.2.1 b hbc).trans (HI2.out.2.2.1 b hb hbc)))
                · exact hgr.os.trans (HB2.out.2.2.1.1.trans HI2.out.2.2.2.2.1)
                · exact hgr.tape.trans (HB2.out.2.2.1.2.1.trans HI2.out.2.2.2.2.2.1)
                · exact hgr.output.trans (HB2.out.2.2.1.2.2.trans HI2.out.2.2.2.2.2.2)
              case measure => simp; omega
            · have e : j = XS.length := by omega
              subst e
              rw [List.drop_length] at hchq
              have hchq' : wr.heap[c9]? = some (.chan l2.room.toNat #[] true s1 r1 false) := by simpa [ints] using hchq
              rw [List.take_length] at hownI
              obtain ⟨hsa, hla, hhe, hte, hrest, hba, houta, hrowa, hza⟩ := HA.out
              have houtq : wr.ownsRow w.heap.size 22 1 (.slice (some ⟨w.heap.size, 0, none⟩) i S.cs.length) i (rs.map Row.val) := row_at houta (hkq _ (by omega) (by omega))
              have hrowr : RowsIn wr (w.heap.size + 1) wa.heap.size rs := hrowa.keep hzq (fun b l1 l2 l3 => hkq b l3 (by omega))
              have hsq : SwOk wr base S (la.set (i + 1) { l2 with held := [] }) := hsa.heldTo hc.out hla (s := s1) (r := r1) hkq (by rw [hte]; simpa [ints] using hchq)
              have hbq : Below base w wr := ⟨ho1.trans hba.os, ho2.trans hba.tape, ho3.trans hba.output, by omega, fun b hb => (hkq b (by omega) (by omega)).trans (hba.block b hb)⟩
              obtain ⟨A3, c3, e3, o3⟩ := ownV_of_row hownI (by decide)
              injection e3 with e4 e5 e6
              subst e4 e6
              have o3' := o3.toI
              have HF := Lib.hid (And.intro houtq (And.intro hrowr (And.intro hsq (And.intro hbq o3'))))
              clear hsa hla hhe hte hba houta hrowa houtq hrowr hsq hbq o3 o3' hownI hchq hkq ho1 ho2 ho3
              go_upto_region 10 with fail
              refine wp_recv_shut (c := c9) (z := .int .i64 0) (ok := true) rfl rfl (by simp [go_sem, execOp, rcase, Act.eval]) hchq' ?_
              rw [show ∀ v, got true v false = .tuple #[v, .bool false] from fun _ => rfl]
              obtain ⟨q0, hq0, hqz0, hqz1, hqz2⟩ := info_parts info_ints
              have HQ := Lib.hid hq0
              clear hq0 hchq'
              go_wp2_with (at_builtin; refine wpList_append_fits _ rfl (.tmp 43) (.tmp 45) 41 rfl w.heap.size 22 q0 1 Tryd.underlying41 HQ.out hqz1 w.heap.size i S.cs.length (rs.map Row.val) rfl (row_below' HF.out.1 (below_al (Below.refl _ _) _)) ⟨_, 0, none⟩ 1 1 [.slice (some ⟨g2, 0, none⟩) XS.length cI] rfl rfl (cell_one_new _ _ _) (by simp [Value.oneCell']) (by omega) ?_; intro w5 hown3 hgr3; have HO3 := Lib.hid hown3; have HG3 := Lib.hid hgr3; clear hown3 hgr3)
              go_roundw
              case rel =>
                have hgr := HG3.out
                have hs5 := hgr.size
                simp only [World.size_alloc] at hs5
                obtain ⟨houtq, hrowr, hsq, hbq, o3'⟩ := HF.out
                have hkeep : ∀ b, b < wr.heap.size → b ≠ w.heap.size → w5.heap[b]? = wr.heap[b]? := fun b hb hne => (hgr.block b (by simp; omega) (by simp; omega)).trans (Below.heap_alloc _ _ _ hb)
                refine ⟨i + 2, rs ++ [⟨some ⟨g2, 0, none⟩, XS.length, cI, XS⟩], la.set (i + 1) { l2 with held := [] }, by omega, by go_num, ?_, ?_, ?_, ?_, ?_, ?_, ?_, ?_⟩
                · go_num
                · have := HO3.out; simpa [Row.val] using this
                · exact (hrowr.keep (by omega) (fun b l1 l2 l3 => hkeep b l3 (by omega))).snoc (by omega) (o3'.keep (by omega) (fun b l1 l2 l3 => hkeep b l3 (by omega)) |>.wide (Nat.le_refl _) (by omega))
                · rw [show i + 2 - 1 = i + 1 from rfl, List.map_append, HX.out.1, map_held_succ hl.out]
                  have hxe := HC2.out.2
                  simp [hxe, HA.out.2.2.1]
                · have := HX.out.2; simp [this]
                · exact hsq.stands (row_blk houtq).2.choose_spec.1 hkeep
                · intro j hj
                  rw [List.getElem?_set_ne (by omega)]
                  exact HA.out.2.2.2.2.1 j (by omega)
                · exact ⟨hgr.os.trans hbq.os, hgr.tape.trans hbq.tape, hgr.output.trans hbq.output, by omega, fun b hb => (hkeep b (by have := hbq.size; omega) (by omega)).trans (hbq.block b hb)⟩
              case measure => simp [intOf]; omega
        | false =>
          go_wp2_with (first
            | (go_at_call 70; refine (isEnded_any HW.out.1 hc.out HW.out.2.1).mono ?_; rintro e w9 ⟨rfl, rfl⟩; rw [← HTE.out])
            | (go_at_call 90; refine (end_at HW.out.1 hc.out HW.out.2.1 HTE.out.symm hcs).mono ?_; rintro e wa ⟨rfl, hs1, hb1, hz1, hk1⟩; obtain ⟨l2, hl2⟩ : ∃ l2, l2 = ({ l with ended := true } : Ln) := ⟨_, rfl⟩; obtain ⟨la, hla⟩ : ∃ la, la = la0.set (i + 1) { l with ended := true } := ⟨_, rfl⟩; have HA := Lib.hid (show SwOk wa base S la ∧ la[i + 1]? = some l2 ∧ l2.held = l.held ∧ l2.ended = true ∧ (∀ j, i + 2 ≤ j → la[j]? = ls[j]?) ∧ Below base w wa ∧ wa.ownsRow w.heap.size 22 1 (.slice (some ⟨w.heap.size, 0, none⟩) i S.cs.length) i (rs.map Row.val) ∧ RowsIn wa (w.heap.size + 1) wa.heap.size rs ∧ w.heap.size < wa.heap.size from by rw [hla, hl2]; obtain ⟨a1, a2, a3, a4, a5, a6⟩ := HW.out; exact ⟨hs1, by rw [List.getElem?_set_self (List.getElem?_eq_some_iff.1 a2).1], rfl, rfl, fun j hj => by rw [List.getElem?_set_ne (by omega)]; exact a3 j (by omega), a6.trans hb1, row_at a4 (hk1 _ (by omega) (by omega)), by rw [hz1]; exact a5.keep (by omega) (fun b l1 l2 l3 => hk1 b (by omega) (by omega)), by rw [hz1]; exact blk_lt (row_blk a4).2.choose_spec.1⟩); clear hs1 hb1 hk1 hz1))
          obtain ⟨hsa, hla, hhe, hte, hrest, hba, houta, hrowa, hza⟩ := HA.out
          obtain ⟨cb1, cb2, s0, r0, hcha⟩ := hsa.chans i c9 l2 hc.out hla
          rw [hte] at hcha
          have zc := blk_lt hcha
          have HCH := Lib.hid hcha
          obtain ⟨XS, hXS⟩ : ∃ XS, XS = l2.held := ⟨_, rfl⟩
          have hX8 : XS.length ≤ 1000 := by rw [hXS, hhe]; exact HSM.out _ (List.mem_of_getElem? hl.out)
          rw [← hXS] at hcha
          have HC2 := Lib.hid (And.intro hcha hXS)
          clear hsa hla hhe hte hrest hba houta hrowa hcha hXS
          go_wp2_with fail
          go_loopw [6] (fun v wr => ∃ (j g cI s r : Nat), j ≤ XS.length ∧ v = .slice (some ⟨g, 0, none⟩) j cI ∧ wr.ownsRow wa.heap.size 3 1 (.slice (some ⟨g, 0, none⟩) j cI) j (ints (XS.take j)) ∧ wr.heap[c9]? = some (.chan l2.room.toNat (ints (XS.drop j)).toArray true s r false) ∧ (∀ b, b < wa.heap.size → b ≠ c9 → wr.heap[b]? = wa.heap[b]?) ∧ wa.heap.size ≤ wr.heap.size ∧ wr.os = wa.os ∧ wr.tape = wa.tape ∧ wr.output = wa.output) (fun v _ => XS.length - (match v with | .slice _ n _ => n | _ => 0))
          case atStart => exact ⟨0, wa.heap.size, 0, s0, r0, Nat.zero_le _, rfl, row_empty (Nat.le_refl _) (heap_alloc_new _ _), blk_alloc HC2.out.1 _, fun b hb _ => Below.heap_alloc _ _ _ hb, by simp, rfl, rfl, rfl⟩
          case round =>
            obtain ⟨j, g2, cI, s1, r1, hj, rfl, hownI, hchq, hkq, hzq, ho1, ho2, ho3⟩ := hrel
            by_cases hjl : j < XS.length
            · obtain ⟨x, hx⟩ : ∃ x, XS[j]? = some x := ⟨_, List.getElem?_eq_getElem hjl⟩
              have hdr : XS.drop j = x :: XS.drop (j + 1) := drop_get hx
              have htk : XS.take (j + 1) = XS.take j ++ [x] := by
                obtain ⟨hk1, e⟩ := List.getElem?_eq_some_iff.1 hx
                rw [List.take_succ_eq_append_getElem hk1, e]
              rw [hdr] at hchq
              have HI2 := Lib.hid (And.intro hownI (And.intro hchq (And.intro hkq (And.intro htk (And.intro ho1 (And.intro ho2 ho3))))))
              have zcq := blk_lt hchq
              clear hownI hchq hkq hdr htk hx ho1 ho2 ho3
              go_upto_region 10 with fail
              refine wp_recv_buf (c := c9) (z := .int .i64 0) (ok := true) rfl rfl (by simp [go_sem, execOp, rcase, Act.eval]) HI2.out.2.1 (by simp [ints]) ?_
              rw [show ((ints (x :: XS.drop (j + 1))).toArray).getD 0 undef = .int .i64 x by simp [ints], show ∀ v, got true v true = .tuple #[v, .bool true] from fun _ => rfl]
              obtain ⟨wb, hwb⟩ : ∃ wb, wb = wr.setChan c9 l2.room.toNat (((ints (x :: XS.drop (j + 1))).toArray).extract 1 ((ints (x :: XS.drop (j + 1))).toArray).size) true s1 (r1 + 1) false := ⟨_, rfl⟩
              rw [← hwb]
              have hzb1 : wb.heap.size ≤ wr.heap.size := by rw [hwb]; simp [World.setChan]
              have hzb2 : wr.heap.size ≤ wb.heap.size := by rw [hwb]; simp [World.setChan]
              have hchb : wb.heap[c9]? = some (.chan l2.room.toNat (ints (XS.drop (j + 1))).toArray true s1 (r1 + 1) false) := by
                rw [hwb]; simp only [World.setChan]; rw [Array.getElem?_setIfInBounds_self_of_lt zcq, ints_extract]
              have hkb : ∀ b, b ≠ c9 → wb.heap[b]? = wr.heap[b]? := fun b hb => by
                rw [hwb]; simp only [World.setChan]; rw [Array.getElem?_setIfInBounds_ne (fun e => hb e.symm)]
              have hobs : wb.os = wr.os ∧ wb.tape = wr.tape ∧ wb.output = wr.output := by rw [hwb]; exact ⟨rfl, rfl, rfl⟩
              have hrowb : wb.ownsRow wa.heap.size 3 1 (.slice (some ⟨g2, 0, none⟩) j cI) j (ints (XS.take j)) := row_at HI2.out.1 (hkb g2 (by have := (row_blk HI2.out.1).1; omega))
              have HB2 := Lib.hid (And.intro hchb (And.intro hkb (And.intro hobs hrowb)))
              clear hwb hchb hkb hobs hrowb
              obtain ⟨q0, hq0, hqz0, hqz1, hqz2⟩ := info_parts info_int
              have HQ := Lib.hid hq0
              clear hq0
              go_wp2_with (at_builtin; go_loud (refine wpList_append_lies _ rfl (.tmp 39) (.tmp 41) 22 rfl wa.heap.size 3 q0 (.int .i64 0) 1 8 Tryd.underlying22 HQ.out hqz0 hqz1 hqz2 rfl (by decide) (.slice (some ⟨g2, 0, none⟩) j cI) j _ rfl (row_below' HB2.out.2.2.2 (below_al (Below.refl _ _) _)) ⟨_, 0, none⟩ 1 1 [.int .i64 x] rfl rfl (cell_one_new _ _ _) (by simp [Value.oneCell']) (by decide) (by unfold maxLen; omega) (by omega) (by simp; omega) _ rfl ?_; intro g3 c3n w5 hown3 hgr3 hat3 hlt3; have HO3 := Lib.hid hown3; have HG3 := Lib.hid hgr3; clear hown3 hgr3 hat3))
              go_roundw
              case rel =>
                have hgr := HG3.out
                have gb := (row_blk HI2.out.1).1
                have hs5 := hgr.size
                simp only [World.size_alloc] at hs5
                refine ⟨j + 1, g3, c3n, s1, r1 + 1, by omega, by go_num, ?_, ?_, ?_, by omega, ?_, ?_, ?_⟩
                · rw [HI2.out.2.2.2.1]; simpa [ints] using HO3.out
                · exact (hgr.block c9 (by simp; omega) (by simp [Value.ownBlock]; omega)).trans (blk_alloc HB2.out.1 _)
                · intro b hb hbc
                  exact (hgr.block b (by simp; omega) (by simp [Value.ownBlock]; omega)).trans ((Below.heap_alloc _ _ _ (by omega)).trans ((HB2.out.2.1 b hbc).trans (HI2.out.2.2.1 b hb hbc)))
                · exact hgr.os.trans (HB2.out.2.2.1.1.trans HI2.out.2.2.2.2.1)
                · exact hgr.tape.trans (HB2.out.2.2.1.2.1.trans HI2.out.2.2.2.2.2.1)
                · exact hgr.output.trans (HB2.out.2.2.1.2.2.trans HI2.out.2.2.2.2.2.2)
              case measure => simp; omega
            · have e : j = XS.length := by omega
              subst e
              rw [List.drop_length] at hchq
              have hchq' : wr.heap[c9]? = some (.chan l2.room.toNat #[] true s1 r1 false) := by simpa [ints] using hchq
              rw [List.take_length] at hownI
              obtain ⟨hsa, hla, hhe, hte, hrest, hba, houta, hrowa, hza⟩ := HA.out
              have houtq : wr.ownsRow w.heap.size 22 1 (.slice (some ⟨w.heap.size, 0, none⟩) i S.cs.length) i (rs.map Row.val) := row_at houta (hkq _ (by omega) (by omega))
              have hrowr : RowsIn wr (w.heap.size + 1) wa.heap.size rs := hrowa.keep hzq (fun b l1 l2 l3 => hkq b l3 (by omega))
              have hsq : SwOk wr base S (la.set (i + 1) { l2 with held := [] }) := hsa.heldTo hc.out hla (s := s1) (r := r1) hkq (by rw [hte]; simpa [ints] using hchq)
              have hbq : Below base w wr := ⟨ho1.trans hba.os, ho2.trans hba.tape, ho3.trans hba.output, by omega, fun b hb => (hkq b (by omega) (by omega)).trans (hba.block b hb)⟩
              obtain ⟨A3, c3, e3, o3⟩ := ownV_of_row hownI (by decide)
              injection e3 with e4 e5 e6
              subst e4 e6
              have o3' := o3.toI
              have HF := Lib.hid (And.intro houtq (And.intro hrowr (And.intro hsq (And.intro hbq o3'))))
              clear hsa hla hhe hte hba houta hrowa houtq hrowr hsq hbq o3 o3' hownI hchq hkq ho1 ho2 ho3
              go_upto_region 10 with fail
              refine wp_recv_shut (c := c9) (z := .int .i64 0) (ok := true) rfl rfl (by simp [go_sem, execOp, rcase, Act.eval]) hchq' ?_
              rw [show ∀ v, got true v false = .tuple #[v, .bool false] from fun _ => rfl]
              obtain ⟨q0, hq0, hqz0, hqz1, hqz2⟩ := info_parts info_ints
              have HQ := Lib.hid hq0
              clear hq0 hchq'
              go_wp2_with (at_builtin; refine wpList_append_fits _ rfl (.tmp 43) (.tmp 45) 41 rfl w.heap.size 22 q0 1 Tryd.underlying41 HQ.out hqz1 w.heap.size i S.cs.length (rs.map Row.val) rfl (row_below' HF.out.1 (below_al (Below.refl _ _) _)) ⟨_, 0, none⟩ 1 1 [.slice (some ⟨g2, 0, none⟩) XS.length cI] rfl rfl (cell_one_new _ _ _) (by simp [Value.oneCell']) (by omega) ?_; intro w5 hown3 hgr3; have HO3 := Lib.hid hown3; have HG3 := Lib.hid hgr3; clear hown3 hgr3)
              go_roundw
              case rel =>
                have hgr := HG3.out
                have hs5 := hgr.size
                simp only [World.size_alloc] at hs5
                obtain ⟨houtq, hrowr, hsq, hbq, o3'⟩ := HF.out
                have hkeep : ∀ b, b < wr.heap.size → b ≠ w.heap.size → w5.heap[b]? = wr.heap[b]? := fun b hb hne => (hgr.block b (by simp; omega) (by simp; omega)).trans (Below.heap_alloc _ _ _ hb)
                refine ⟨i + 2, rs ++ [⟨some ⟨g2, 0, none⟩, XS.length, cI, XS⟩], la.set (i + 1) { l2 with held := [] }, by omega, by go_num, ?_, ?_, ?_, ?_, ?_, ?_, ?_, ?_⟩
                · go_num
                · have := HO3.out; simpa [Row.val] using this
                · exact (hrowr.keep (by omega) (fun b l1 l2 l3 => hkeep b l3 (by omega))).snoc (by omega) (o3'.keep (by omega) (fun b l1 l2 l3 => hkeep b l3 (by omega)) |>.wide (Nat.le_refl _) (by omega))
                · rw [show i + 2 - 1 = i + 1 from rfl, List.map_append, HX.out.1, map_held_succ hl.out]
                  have hxe := HC2.out.2
                  simp [hxe, HA.out.2.2.1]
                · have := HX.out.2; simp [this]
                · exact hsq.stands (row_blk houtq).2.choose_spec.1 hkeep
                · intro j hj
                  rw [List.getElem?_set_ne (by omega)]
                  exact HA.out.2.2.2.2.1 j (by omega)
                · exact ⟨hgr.os.trans hbq.os, hgr.tape.trans hbq.tape, hgr.output.trans hbq.output, by omega, fun b hb => (hkeep b (by have := hbq.size; omega) (by omega)).trans (hbq.block b hb)⟩
              case measure => simp [intOf]; omega
    · have e : k = S.cs.length + 1 := by omega
      subst e
      simp only [Nat.add_sub_cancel] at hout hxs hrl
      have HF := Lib.hid (And.intro hout (And.intro hrow (And.intro hxs B)))
      clear hout hrow hxs hrl hsw hrest
      go_wp2
      go_ret
      obtain ⟨hout, hrow, hxs, B⟩ := HF.out
      obtain ⟨A', c', e', o⟩ := ownV_of_row hout (by decide)
      injection e' with e1 e2 e3
      subst e1 e3
      refine ⟨S.cs.length, rs, rfl, ⟨o.slc.len, o.slc.le, o.slc.cap, fun h0 => ?_⟩, hrow, ?_, B⟩
      · obtain ⟨b, off, e, _, h2, h3, h4⟩ := o.slc.at_ h0
        injection e with e; injection e with e1 e2; subst e1 e2
        exact ⟨_, _, rfl, Nat.le_refl _, Nat.lt_succ_self _, h3, h4⟩
      · rw [hxs, List.take_of_length_le (by rw [List.length_drop, HS.out.len]; omega)]
end Go.Proofs.YtojnnemodikpeaaDoor
