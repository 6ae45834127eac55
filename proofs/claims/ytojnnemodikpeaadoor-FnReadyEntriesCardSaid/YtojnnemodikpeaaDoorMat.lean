/-
  Slices of slices of integers: szIntSS, toIntSS, eqIntSS.
-/
import Derived.Test.YtojnnemodikpeaaDoorHeld
namespace Go.Proofs.YtojnnemodikpeaaDoor
open Go.RowKit
set_option linter.unusedVariables false
structure Row where
  A : Option Addr
  n : Nat
  c : Nat
  xs : List Int
def Row.val (r : Row) : Value := .slice r.A r.n r.c
/-- A slice of slices: its rows lie from lo' on, below hi'. -/
structure Mat (w : World) (lo hi lo' hi' : Nat) (A : Option Addr) (n c : Nat) (rs : List Row) : Prop where
  out : Slc w lo hi 1 A n c (rs.map Row.val)
  row : ∀ r ∈ rs, Slc w lo' hi' 1 r.A r.n r.c (ints r.xs)
theorem Mat.length {w : World} {lo hi lo' hi' n c : Nat} {A : Option Addr} {rs : List Row} (h : Mat w lo hi lo' hi' A n c rs) : rs.length = n := by have := h.out.len; simpa using this
theorem Mat.rowAt {w : World} {lo hi lo' hi' n c : Nat} {A : Option Addr} {rs : List Row} (h : Mat w lo hi lo' hi' A n c rs) {k : Nat} (hk : k < n) :
    ∃ b off r, A = some ⟨b, off, none⟩ ∧ lo ≤ b ∧ b < hi ∧ b < w.heap.size ∧ rs[k]? = some r ∧ r ∈ rs ∧ w.cell? ⟨b, off + k, none⟩ = some (.slice r.A r.n r.c) ∧ Slc w lo' hi' 1 r.A r.n r.c (ints r.xs) := by
  obtain ⟨b, off, e, h1, h2, h3, h4⟩ := h.out.at_ (by omega)
  have hl : k < rs.length := by rw [h.length]; exact hk
  exact ⟨b, off, rs[k], e, h1, h2, h3, List.getElem?_eq_getElem hl, List.getElem_mem _, h4 k _ (by simp [hl, Row.val]), h.row _ (List.getElem_mem _)⟩
theorem Mat.chg {w w' : World} {lo hi lo' hi' l h n c : Nat} {A : Option Addr} {rs : List Row} (m : Mat w lo hi lo' hi' A n c rs) (k : Chg l h w w') (h1 : hi ≤ l ∨ h ≤ lo) (h2 : hi' ≤ l ∨ h ≤ lo') : Mat w' lo hi lo' hi' A n c rs :=
  ⟨m.out.chg k h1, fun r hr => (m.row r hr).chg k h2⟩
theorem Mat.below {w w' : World} {lo hi lo' hi' n c : Nat} {A : Option Addr} {rs : List Row} (m : Mat w lo hi lo' hi' A n c rs) (k : Below w.heap.size w w') : Mat w' lo hi lo' hi' A n c rs :=
  ⟨m.out.below k, fun r hr => (m.row r hr).below k⟩
def szRows (l : Int) : List Row → Int
  | [] => l
  | r :: rs => if l < r.n then -1 else szRows (l - r.n) rs
theorem drop_get {α : Type} {l : List α} {k : Nat} {a : α} (h : l[k]? = some a) : l.drop k = a :: l.drop (k + 1) := by
  obtain ⟨hk, e⟩ := List.getElem?_eq_some_iff.1 h
  rw [List.drop_eq_getElem_cons hk, e]
theorem info_ints : (Tryd.prog.info? 22).map (fun i => (i.zero, i.size, i.bytes)) = some (some (.slice none 0 0), 1, 24) := by kernel_rfl
theorem make_rows (n : Nat) (_hn : n ≤ 1048576) : ∃ cs : Array Value, cs.size = n ∧ ∀ w : World, (Instr.makeSlice 41 (.int .i64 (n : Int)) (.int .i64 (n : Int))).run Tryd.prog w = .ok (.slice (some ⟨w.heap.size, 0, none⟩) n n) (w.alloc (.cells cs 22)) :=
  ⟨madeCells #[.slice none 0 0] n, size_madeCells _ _, fun w => run_make_row' 41 22 (.slice none 0 0) 24 Tryd.underlying41 info_ints rfl .i64 .i64 n (by omega) (by omega) w⟩
/-- A new slice of slices with the same numbers: the outer block first, the rows behind it, each a block of its own. -/
def NewMat (w : World) (xss : List (List Int)) (e : Ending) (w' : World) : Prop :=
  ∃ (n : Nat) (rs : List Row), e = .returned (.slice (some ⟨w.heap.size, 0, none⟩) n n) ∧ Mat w' w.heap.size (w.heap.size + 1) (w.heap.size + 1) w'.heap.size (some ⟨w.heap.size, 0, none⟩) n n rs ∧
    (∀ r ∈ rs, Own w' (w.heap.size + 1) w'.heap.size r.A r.n r.c r.xs) ∧ rs.map Row.xs = xss ∧ Below w.heap.size w w'
theorem Own.wide {w : World} {lo hi lo' hi' n c : Nat} {A : Option Addr} {xs : List Int} (h : Own w lo hi A n c xs) (h1 : lo' ≤ lo) (h2 : hi ≤ hi') : Own w lo' hi' A n c xs := ⟨h.slc.wide h1 h2, h.blk⟩
theorem map_take_snoc {rs rs' : List Row} {k : Nat} {r r' : Row} (h : rs'.map Row.xs = (rs.take k).map Row.xs) (hr : rs[k]? = some r) (hx : r'.xs = r.xs) : (rs' ++ [r']).map Row.xs = (rs.take (k + 1)).map Row.xs := by
  obtain ⟨hk, e⟩ := List.getElem?_eq_some_iff.1 hr
  rw [List.take_succ_eq_append_getElem hk, List.map_append, List.map_append, h, e]; simp [hx]
theorem Slc.drewN {w : World} {lo hi s n c : Nat} {A : Option Addr} {xs : List Value} (h : Slc w lo hi s A n c xs) (m : Nat) : Slc (w.drewN m) lo hi s A n c xs := h.keep (Nat.le_refl _) fun _ _ _ _ => rfl
theorem Mat.drewN {w : World} {lo hi lo' hi' n c : Nat} {A : Option Addr} {rs : List Row} (h : Mat w lo hi lo' hi' A n c rs) (m : Nat) : Mat (w.drewN m) lo hi lo' hi' A n c rs := ⟨h.out.drewN m, fun r hr => (h.row r hr).drewN m⟩
theorem lists_ne_of {xs ys : List (List Int)} {k : Nat} {u v : List Int} (h1 : xs[k]? = some u) (h2 : ys[k]? = some v) (hne : (u == v) = false) : (xs == ys) = false := by
  rw [beq_eq_false_iff_ne] at hne ⊢; intro e; subst e; rw [h1] at h2; injection h2 with h2; exact hne h2
theorem lists_eq_of {xs ys : List (List Int)} (hl : xs.length = ys.length) (h : ∀ j : Nat, j < xs.length → xs[j]? = ys[j]?) : (xs == ys) = true := by
  rw [beq_iff_eq]; apply List.ext_getElem? ; intro j
  rcases Nat.lt_or_ge j xs.length with hj | hj
  · exact h j hj
  · rw [List.getElem?_eq_none hj, List.getElem?_eq_none (by omega)]
set_option maxHeartbeats 1000000 in
theorem eqIntSS_any (lo hi lo2 hi2 n c lo' hi' lo2' hi2' n' c' : Nat) (A A' : Option Addr) (rs qs : List Row) (w : World) (h : Mat w lo hi lo2 hi2 A n c rs) (h' : Mat w lo' hi' lo2' hi2' A' n' c' qs) (hn : n ≤ 1048576) (hn' : n' ≤ 1048576)
    (hr : ∀ r ∈ rs, r.n ≤ 1048576) (hq : ∀ r ∈ qs, r.n ≤ 1048576) :
    Calls Tryd.prog 46 #[.slice A n c, .slice A' n' c'] w (SaysB w (rs.map Row.xs == qs.map Row.xs)) := by
  have hl := Lib.hid h.length
  have hl' := Lib.hid h'.length
  have HR := Lib.hid hr
  have HQ := Lib.hid hq
  clear hr hq
  by_cases hne : n = n'
  · subst hne
    go_enter Tryd.func46, Tryd.ntmps46
    go_wp2
    go_loopw [5] (fun i wr => ∃ k : Nat, k ≤ n ∧ i = .int .i64 k ∧ (∃ m, wr = w.drewN m) ∧ ∀ j, j < k → (rs.map Row.xs)[j]? = (qs.map Row.xs)[j]?) (fun i _ => n - (intOf i).toNat)
    case atStart => exact ⟨0, Nat.zero_le _, rfl, ⟨0, rfl⟩, fun j hj => absurd hj (by omega)⟩
    case round =>
      obtain ⟨k, hk, rfl, hm, hcs⟩ := hrel
      have HC := Lib.hid hcs
      have HM := Lib.hid hm
      have m1 : Mat wr lo hi lo2 hi2 A n c rs := by obtain ⟨m, rfl⟩ := hm; exact h.drewN m
      have m2 : Mat wr lo' hi' lo2' hi2' A' n c' qs := by obtain ⟨m, rfl⟩ := hm; exact h'.drewN m
      clear hcs hm h h'
      by_cases hlt : k < n
      · obtain ⟨b, off, r, rfl, _, _, h3, hxk, hmem, hv, hrow⟩ := m1.rowAt hlt
        obtain ⟨b', off', r', rfl, _, _, h3', hxk', hmem', hv', hrow'⟩ := m2.rowAt hlt
        have hrn := HR.out r hmem
        have hrn' := HQ.out r' hmem'
        have HX := Lib.hid (show (rs.map Row.xs)[k]? = some r.xs by rw [List.getElem?_map, hxk]; rfl)
        have HX' := Lib.hid (show (qs.map Row.xs)[k]? = some r'.xs by rw [List.getElem?_map, hxk']; rfl)
        clear hxk hxk' m1 m2 hmem hmem'
        have i0 : (0 : Int) ≤ (k : Int) := by omega
        have i1 : (k : Int) < (n : Int) := by omega
        have HCALL := fun m : Nat => Calls.quiet_of (w := wr) (n := m) ((eqIntS_any _ _ _ _ _ _ _ _ _ _ _ _ _ (hrow.drewN m) (hrow'.drewN m) hrn hrn').mono fun _ _ hh => hh)
        have HE := Lib.hid HCALL
        clear HCALL hrow hrow'
        by_cases hvv : (r.xs == r'.xs) = true
        · have HV := Lib.hid hvv
          go_wp2
          go_quiet ((go_at_call 22; exact HE.out _))
          go_wp2
          go_roundw
          case rel => exact ⟨k + 1, by omega, by go_num, by obtain ⟨m, hm⟩ := HM.out; exact ⟨m + nq, by rw [hm, World.drewN_drewN]⟩, fun j hj => by
            by_cases e : j = k
            · subst e; rw [HX.out, HX'.out, eq_of_beq HV.out]
            · exact HC.out j (by omega)⟩
          case measure => simp [intOf]; omega
        · have hvv' : (r.xs == r'.xs) = false := by simpa using hvv
          have HV := Lib.hid hvv'
          clear hvv
          go_wp2
          go_quiet ((go_at_call 22; exact HE.out _))
          go_wp2
          go_ret
          exact ⟨ret_bool (lists_ne_of HX.out HX'.out HV.out).symm, by obtain ⟨m, hm⟩ := HM.out; exact ⟨m + nq, by rw [hm, World.drewN_drewN]⟩⟩
      · have e : k = n := by omega
        subst e
        clear m1 m2
        go_wp2
        go_ret
        exact ⟨ret_bool (lists_eq_of (by simp [hl.out, hl'.out]) (by simp only [List.length_map]; rw [hl.out]; exact HC.out)).symm, HM.out⟩
  · have hq : ((n : Int) != (n' : Int)) = true := by rw [bne_iff_ne]; omega
    clear h h'
    have HN := Lib.hid hne
    clear hne
    go_enter Tryd.func46, Tryd.ntmps46
    go_wp2
    go_ret
    exact ⟨ret_bool (by symm; rw [beq_eq_false_iff_ne]; intro e; have := congrArg List.length e; simp [hl.out, hl'.out] at this; exact HN.out this), 0, rfl⟩
end Go.Proofs.YtojnnemodikpeaaDoor
