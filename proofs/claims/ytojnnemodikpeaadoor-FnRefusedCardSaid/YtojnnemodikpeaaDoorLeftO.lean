/-
  The reference's LeftIn: a copy that shares no memory.
-/
import Derived.Test.YtojnnemodikpeaaDoorLeftI
namespace Go.Proofs.YtojnnemodikpeaaDoor
open Go.RowKit Go.Conc
set_option linter.unusedVariables false
set_option maxRecDepth 20000 in
set_option maxHeartbeats 4000000 in
theorem spec_l11Own (lo hi lo2 hi2 n c : Nat) (A : Option Addr) (rs : List Row) (w : World) (h : Slc w lo hi 1 A n c (rs.map Row.val)) (hr : ∀ r ∈ rs, Slc w lo2 hi2 1 r.A r.n r.c (ints r.xs) ∧ ∃ b off, r.A = some ⟨b, off, none⟩) (hn : n ≤ 1048576) (hrn : ∀ r ∈ rs, r.n ≤ 1048576) :
    Calls Tryd.prog 72 #[.slice A n c] w fun e w' => ∃ (A' : Option Addr) (c' : Nat) (qs : List Row), e = .returned (.slice A' n c') ∧ Slc w' w.heap.size w'.heap.size 1 A' n c' (qs.map Row.val) ∧ (∀ q ∈ qs, Slc w' w.heap.size w'.heap.size 1 q.A q.n q.c (ints q.xs)) ∧ qs.map Row.xs = rs.map Row.xs ∧ Below w.heap.size w w' := by
  have hl : rs.length = n := by have := h.len; simpa using this
  have HR := Lib.hid (And.intro hr (And.intro hrn hl))
  have HS := Lib.hid h
  obtain ⟨i0, hi0, hz0, hz1, hz2⟩ := info_parts info_ints
  obtain ⟨j0, hj0, hy0, hy1, hy2⟩ := info_parts info_int
  have HI := Lib.hid (And.intro hi0 hj0)
  clear hi0 hj0 hr hrn hl h
  go_enter Tryd.func72, Tryd.ntmps72
  go_wp2
  go_loopw [3, 9] (fun v i wr => ∃ (k g cO : Nat) (qs : List Row), k ≤ n ∧ i = .int .i64 k ∧ v = .slice (some ⟨g, 0, none⟩) k cO ∧ wr.ownsRow w.heap.size 22 1 (.slice (some ⟨g, 0, none⟩) k cO) k (qs.map Row.val) ∧ (∀ q ∈ qs, wr.ownsRow w.heap.size 3 1 (.slice q.A q.n q.c) q.n (ints q.xs) ∧ ∃ b, q.A = some ⟨b, 0, none⟩) ∧ qs.map Row.xs = (rs.take k).map Row.xs ∧ Below w.heap.size w wr) (fun _ i _ => n - (intOf i).toNat)
  case atStart => exact ⟨0, w.heap.size, 0, [], Nat.zero_le _, rfl, rfl, row_empty (Nat.le_refl _) (heap_alloc_new _ _), fun q hq => (List.not_mem_nil hq).elim, rfl, below_al (Below.refl _ _) _⟩
  case round =>
    obtain ⟨k, g, cO, qs, hk, rfl, rfl, hown, hqs, hxs, B⟩ := hrel
    have HOW := Lib.hid (And.intro hown (And.intro hqs (And.intro hxs B)))
    clear hown hqs hxs
    by_cases hlt : k < n
    · obtain ⟨b, off, r, rfl, _, _, h3, hrk, hv⟩ := outAt (HS.out.below B) hlt
      obtain ⟨hrs, rb, ro, rA⟩ := HR.out.1 r (List.mem_of_getElem? hrk)
      have hrn := HR.out.2.1 r (List.mem_of_getElem? hrk)
      have hrs' := hrs.below B
      obtain ⟨rAA, rn, rc, rx⟩ := r
      simp only at rA hrs hrn hv hrs'
      subst rA
      have HRK := Lib.hid (And.intro hrk hrs')
      have hrl := hrs.length
      have i0' : (0 : Int) ≤ (k : Int) := by omega
      have i1 : (k : Int) < (n : Int) := by omega
      have zw := B.size
      have hnews : ∀ (o : Obj) j u, (ints rx)[j]? = some u → (wr.alloc o).cell? ((⟨rb, ro, none⟩ : Addr).add j) = some u := by
        intro o j u hu
        have hj : j < rn := by have := (List.getElem?_eq_some_iff.1 hu).1; have := hrs.len; omega
        obtain ⟨b', off', e', _, _, h3', h4'⟩ := hrs'.at_ (by omega)
        injection e' with e'; injection e' with e1 e2; subst e1 e2
        rw [Addr.add_lit]
        exact (World.cell?_of_block (Below.heap_alloc _ _ _ h3')).trans (h4' j u hu)
      have HN := Lib.hid hnews
      clear hrk hrs hrs' hnews
      go_wp2_with (first
        | (at_builtin; (refine wpList_app _ rfl (.tmp 14) (.tmp 15) 22 rfl wr.heap.size 3 j0 (.int .i64 0) 1 8 Tryd.underlying22 HI.out.2 hy0 hy1 hy2 rfl (by decide) (.slice (some ⟨wr.heap.size, 0, none⟩) 0 0) 0 [] rfl (row_empty (Nat.le_refl _) (heap_alloc_new _ _)) (by simp) ⟨rb, ro, none⟩ rn rc (ints rx) rfl (by simp [ints]; omega) (HN.out _) (by intro u hu; simp only [ints, List.mem_map] at hu; obtain ⟨x, _, rfl⟩ := hu; rfl) (by unfold maxLen; omega) (by omega) (by simp) ?_; intro g1 c1 w1 hown1 hgr1 B1; have hz1' := B1.size; simp only [World.size_alloc] at hz1'; simp only [Nat.zero_add, List.nil_append] at hown1; have HO1 := Lib.hid hown1; have HG1 := Lib.hid (And.intro hgr1 B1); clear hown1 hgr1 B1))
        | (at_builtin; go_loud (refine wpList_append_lies _ rfl (.tmp 13) (.tmp 17) 41 rfl w.heap.size 22 i0 (.slice none 0 0) 1 24 Tryd.underlying41 HI.out.1 hz0 hz1 hz2 rfl (by decide) (.slice (some ⟨g, 0, none⟩) k cO) k _ rfl (row_below' (row_below' HOW.out.1 ((below_al (Below.refl wr.heap.size wr) _).trans HG1.out.2)) (below_al (Below.refl _ _) _)) ⟨_, 0, none⟩ 1 1 [.slice (some ⟨g1, 0, none⟩) rn c1] rfl rfl (cell_one_new _ _ _) (by simp [Value.oneCell']) (by decide) (by unfold maxLen; omega) (by omega) (by simp; omega) _ rfl ?_; intro g2 c2n w4 hown2 hgr2 hat2 hlt2; have HO2 := Lib.hid hown2; have HG2 := Lib.hid hgr2; clear hown2 hgr2 hat2)))
      go_roundw
      case rel =>
        obtain ⟨hg1, hB1⟩ := HG1.out
        have hgr := HG2.out
        obtain ⟨hgo, gcs, ghg, _⟩ := row_blk HOW.out.1
        have zg := blk_lt ghg
        have hs := hgr.size
        simp only [World.size_alloc] at hs
        have hk0 : ∀ b, b < wr.heap.size → b ≠ g → w4.heap[b]? = wr.heap[b]? := fun b hb hne => (hgr.block b (by simp; omega) (by simp [Value.ownBlock]; omega)).trans ((Below.heap_alloc _ _ _ (by omega)).trans ((hB1.block b hb).trans (Below.heap_alloc _ _ _ hb)))
        obtain ⟨g1lo, g1cs, g1h, _⟩ := row_blk HO1.out
        have zg1 := blk_lt g1h
        have hk1 : w4.heap[g1]? = w1.heap[g1]? := (hgr.block g1 (by simp; omega) (by simp [Value.ownBlock]; omega)).trans (Below.heap_alloc _ _ _ zg1)
        refine ⟨k + 1, g2, c2n, qs ++ [⟨some ⟨g1, 0, none⟩, rn, c1, rx⟩], by omega, by go_num, by go_num, ?_, ?_, ?_, ?_⟩
        · simpa [Row.val] using HO2.out
        · intro q hq
          rcases List.mem_append.1 hq with hq | hq
          · obtain ⟨ho, b, hb⟩ := HOW.out.2.1 q hq
            refine ⟨?_, b, hb⟩
            rw [hb] at ho ⊢
            obtain ⟨_, cs, k2, _⟩ := row_blk ho
            refine row_at ho (hk0 b (blk_lt k2) ?_)
            rintro rfl
            rw [ghg] at k2; simp at k2
          · rw [List.mem_singleton] at hq
            subst hq
            obtain ⟨h1, hh⟩ := row_at HO1.out hk1
            refine ⟨⟨h1, ?_⟩, g1, rfl⟩
            rcases hh with hh | ⟨gg, cap, cur, e, hb, hh⟩
            · exact .inl hh
            · injection e with e1 e2 e3; injection e1 with e1; injection e1 with e1
              subst e1 e3
              exact .inr ⟨_, _, cur, rfl, by omega, hh⟩
        · rw [List.map_append, HOW.out.2.2.1, show k + 1 = k + 1 from rfl]
          obtain ⟨hk1', e⟩ := List.getElem?_eq_some_iff.1 HRK.out.1
          rw [List.take_succ_eq_append_getElem hk1', e, List.map_append]
          rfl
        · refine ⟨hgr.os.trans (hB1.os.trans B.os), hgr.tape.trans (hB1.tape.trans B.tape), hgr.output.trans (hB1.output.trans B.output), by omega, fun b hb => (hk0 b (by omega) (by omega)).trans (B.block b hb)⟩
      case measure => simp [intOf]; omega
    · have e : k = n := by omega
      subst e
      go_wp2
      go_ret
      obtain ⟨A', c', e', o⟩ := ownV_of_row HOW.out.1 (by decide)
      injection e' with e1 e2 e3
      subst e1 e3
      refine ⟨_, _, qs, rfl, o.slc, fun q hq => ?_, ?_, HOW.out.2.2.2⟩
      · obtain ⟨A9, c9, e9, o9⟩ := ownV_of_row (HOW.out.2.1 q hq).1 (by decide)
        injection e9 with e1 e2 e3
        rw [e1, e3]; exact o9.slc
      · rw [HOW.out.2.2.1, List.take_of_length_le (by rw [HR.out.2.2]; exact Nat.le_refl _)]
/-- The reference's answer: a slice of slices that reads so; and a bool. -/
def MatB (w : World) (xss : List (List Int)) (t : Bool) (e : Ending) (w' : World) : Prop :=
  ∃ (A : Option Addr) (n c : Nat) (rs : List Row), e = .returned (.tuple #[.slice A n c, .bool t]) ∧ Mat w' w.heap.size w'.heap.size w.heap.size w'.heap.size A n c rs ∧ (∀ r ∈ rs, r.n ≤ 1048576) ∧ rs.map Row.xs = xss ∧ Below w.heap.size w w'
theorem leftF_small (rooms : List Int) (ds : List DeedD) : (leftF rooms ds).1.length ≤ 6 ∧ ∀ x ∈ (leftF rooms ds).1, x.length ≤ 1000 := by
  unfold leftF
  cases hd : deedsB rooms ds with
  | false => simp
  | true =>
    have := (deedsB_of hd).1.2
    have := (runF_len rooms ds).1
    have hh := run_held0 hd
    refine ⟨by simp; omega, fun x hx => ?_⟩
    simp only [if_true] at hx
    obtain ⟨l, hl, rfl⟩ := List.mem_map.1 hx
    exact hh l (List.mem_of_mem_drop hl)
theorem rows_small {w : World} {lo hi : Nat} {rs : List Row} {rooms : List Int} {ds : List DeedD} (h : ∀ r ∈ rs, Slc w lo hi 1 r.A r.n r.c (ints r.xs)) (hx : rs.map Row.xs = (leftF rooms ds).1) : rs.length ≤ 6 ∧ ∀ r ∈ rs, r.n ≤ 1000 := by
  obtain ⟨h1, h2⟩ := leftF_small rooms ds
  refine ⟨by have := congrArg List.length hx; simp at this; omega, fun r hr => ?_⟩
  have := (h r hr).length
  have := h2 r.xs (by rw [← hx]; exact List.mem_map_of_mem hr)
  omega
theorem total_small : ∀ {rs : List Row} {B : Nat}, (∀ r ∈ rs, r.n ≤ B) → total rs ≤ rs.length * B
  | [], B, _ => by simp [total]
  | r :: rs, B, h => by
    have h1 := total_small (rs := rs) (B := B) fun q hq => h q (List.mem_cons_of_mem _ hq)
    have h2 := h r (by simp)
    have e : total (r :: rs) = r.n + total rs := by simp [total]
    rw [e, List.length_cons, Nat.add_mul]
    omega
set_option maxHeartbeats 2000000 in
theorem spec_LeftIn (lo hi n c lo2 hi2 m c2 : Nat) (A A2 : Option Addr) (rooms : List Int) (ds : List DeedD) (w : World) (h : Slc w lo hi 1 A n c (ints rooms)) (h2 : Slc w lo2 hi2 3 A2 m c2 (deeds ds)) (hn : n ≤ 1048576) (hm : m ≤ 1048576) :
    Calls Tryd.prog 41 #[.slice A n c, .slice A2 m c2] w (MatB w (leftF rooms ds).1 (leftF rooms ds).2) := by
  go_enter Tryd.func41, Tryd.ntmps41
  go_wp2_with fail
  refine (spec_l1RawLeftIn _ _ _ _ _ _ _ _ _ _ rooms ds _ h h2 hn hm).mono ?_
  rintro e w1 ⟨A1, n1, c1, rs, rfl, h1, hr, hx, b1⟩
  obtain ⟨q1, q2⟩ := rows_small (fun r hr' => (hr r hr').1) hx
  have hl1 : rs.length = n1 := by have := h1.len; simpa using this
  have HX := Lib.hid (And.intro hx (And.intro q1 q2))
  generalize (leftF rooms ds).2 = t at *
  go_wp2_with fail
  refine (spec_l11Own _ _ _ _ _ _ _ rs _ h1 hr (by omega) (fun r hr' => by have := q2 r hr'; omega)).mono ?_
  rintro e w2 ⟨A3, c3, qs, rfl, h3, hq, hx2, b2⟩
  have hle := b1.size
  have hF := HX.out.1
  clear h1 hr hx q1 q2
  go_wp2
  go_ret2
  have hx3 : qs.map Row.xs = (leftF rooms ds).1 := hx2.trans hF
  obtain ⟨q1, q2⟩ := rows_small hq hx3
  exact ⟨_, _, _, qs, rfl, ⟨h3.wide hle (Nat.le_refl _), fun r hr => (hq r hr).wide hle (Nat.le_refl _)⟩, fun r hr => by have := q2 r hr; omega, hx3, below_step b1 b2⟩
theorem eqIntSS_u {lo hi lo2 hi2 n c lo' hi' lo2' hi2' n' c' : Nat} {A A' : Option Addr} {rs qs : List Row} {w : World} (h : Mat w lo hi lo2 hi2 A n c rs) (h' : Mat w lo' hi' lo2' hi2' A' n' c' qs) (hn : n ≤ 1048576) (hn' : n' ≤ 1048576)
    (hr : ∀ r ∈ rs, r.n ≤ 1048576) (hq : ∀ r ∈ qs, r.n ≤ 1048576) :
    Calls Tryd.prog 46 #[.slice A n c, .slice A' n' c'] w fun e w' => e = .returned (.bool (rs.map Row.xs == qs.map Row.xs)) ∧ Below w.heap.size w w' :=
  (eqIntSS_any _ _ _ _ _ _ _ _ _ _ _ _ _ _ _ _ w h h' hn hn' hr hq).mono (by rintro e w' ⟨rfl, m, rfl⟩; exact ⟨rfl, rfl, rfl, rfl, Nat.le_refl _, fun _ _ => rfl⟩)
theorem heldIntSS_u {lo hi n c lo2 hi2 : Nat} {A : Option Addr} {rs : List Row} {k0 : Int} {w : World} (h : Slc w lo hi 1 A n c (rs.map Row.val)) (hr : RowsIn w lo2 hi2 (markRows k0 rs)) (hn : n ≤ 1048576) (hrn : ∀ r ∈ rs, r.n ≤ 1048576) (ht : total rs ≤ 1048576) (hk0 : 0 ≤ k0) (hk1 : k0 ≤ 10000000) :
    Calls Tryd.prog 48 #[.slice A n c, .int .i64 k0] w fun e w' => e = .returned (.int .i64 (k0 + total rs)) ∧ Below w.heap.size w w' :=
  (heldIntSS_rows _ _ _ _ _ _ _ rs k0 w h hr hn hrn ht hk0 hk1).mono (by rintro e w' ⟨rfl, rfl⟩; exact ⟨rfl, Below.refl _ _⟩)
end Go.Proofs.YtojnnemodikpeaaDoor
