/-
  Rows one behind the other, each a block of its own: markIntSS and heldIntSS.
-/
import Derived.Test.YtojnnemodikpeaaDoorMat
namespace Go.Proofs.YtojnnemodikpeaaDoor
open Go.RowKit
set_option linter.unusedVariables false
def RowsIn (w : World) : Nat → Nat → List Row → Prop
  | lo, hi, [] => lo ≤ hi
  | lo, hi, r :: rs => ∃ mid, lo ≤ mid ∧ Own w lo mid r.A r.n r.c r.xs ∧ RowsIn w mid hi rs
def total (rs : List Row) : Nat := (rs.map Row.n).sum
def markRows : Int → List Row → List Row
  | _, [] => []
  | k, r :: rs => { r with xs := marks k r.n } :: markRows (k + r.n) rs
theorem total_snoc (rs : List Row) (r : Row) : total (rs ++ [r]) = total rs + r.n := by simp [total]
theorem total_take {rs : List Row} {k : Nat} {r : Row} (h : rs[k]? = some r) : total (rs.take (k + 1)) = total (rs.take k) + r.n := by
  obtain ⟨hk, e⟩ := List.getElem?_eq_some_iff.1 h
  rw [List.take_succ_eq_append_getElem hk, e, total_snoc]
theorem total_app (a b : List Row) : total (a ++ b) = total a + total b := by simp [total]
theorem total_le (rs : List Row) (k : Nat) : total (rs.take k) ≤ total rs := by
  have e := total_app (rs.take k) (rs.drop k)
  rw [List.take_append_drop] at e
  omega
theorem markRows_app : ∀ (a b : List Row) (k : Int), markRows k (a ++ b) = markRows k a ++ markRows (k + total a) b
  | [], b, k => by simp [markRows, total]
  | r :: a, b, k => by
    simp only [List.cons_append, markRows]
    rw [markRows_app a b]
    have : k + (r.n : Int) + (total a : Int) = k + (total (r :: a) : Int) := by simp [total]; omega
    rw [this]
theorem markRows_val : ∀ (rs : List Row) (k : Int), (markRows k rs).map Row.val = rs.map Row.val
  | [], _ => rfl
  | r :: rs, k => by simp [markRows, markRows_val rs, Row.val]
theorem markRows_take {rs : List Row} {k : Nat} {r : Row} {k0 : Int} (h : rs[k]? = some r) : markRows k0 (rs.take (k + 1)) = markRows k0 (rs.take k) ++ [{ r with xs := marks (k0 + total (rs.take k)) r.n }] := by
  obtain ⟨hk, e⟩ := List.getElem?_eq_some_iff.1 h
  rw [List.take_succ_eq_append_getElem hk, e, markRows_app]; rfl
theorem RowsIn.le : ∀ {rs : List Row} {w : World} {lo hi : Nat}, RowsIn w lo hi rs → lo ≤ hi
  | [], _, _, _, h => h
  | r :: rs, _, _, _, ⟨mid, h1, _, h3⟩ => Nat.le_trans h1 (RowsIn.le h3)
theorem RowsIn.keep : ∀ {rs : List Row} {w w' : World} {lo hi : Nat}, RowsIn w lo hi rs → w.heap.size ≤ w'.heap.size → (∀ b, lo ≤ b → b < hi → b < w.heap.size → w'.heap[b]? = w.heap[b]?) → RowsIn w' lo hi rs
  | [], _, _, _, _, h, _, _ => h
  | r :: rs, _, _, _, _, ⟨mid, h1, h2, h3⟩, hs, hk => by
    have := RowsIn.le h3
    exact ⟨mid, h1, h2.keep hs (fun b l1 l2 l3 => hk b l1 (by omega) l3), RowsIn.keep h3 hs (fun b l1 l2 l3 => hk b (by omega) l2 l3)⟩
theorem RowsIn.below {rs : List Row} {w w' : World} {lo hi : Nat} (h : RowsIn w lo hi rs) (b : Below w.heap.size w w') : RowsIn w' lo hi rs := h.keep b.size fun k _ _ h3 => b.block k h3
theorem RowsIn.chg {rs : List Row} {w w' : World} {lo hi l h' : Nat} (h : RowsIn w lo hi rs) (k : Chg l h' w w') (hd : hi ≤ l ∨ h' ≤ lo) : RowsIn w' lo hi rs := h.keep k.size fun b l1 l2 l3 => k.block b l3 (by omega)
theorem RowsIn.snoc : ∀ {rs : List Row} {w : World} {lo mid hi : Nat} {r : Row}, RowsIn w lo mid rs → mid ≤ hi → Own w mid hi r.A r.n r.c r.xs → RowsIn w lo hi (rs ++ [r])
  | [], w, lo, mid, hi, r, h, h1, h2 => ⟨hi, Nat.le_trans h h1, h2.wide h (Nat.le_refl _), Nat.le_refl _⟩
  | q :: rs, w, lo, mid, hi, r, ⟨m, h1, h2, h3⟩, h4, h5 => ⟨m, h1, h2, RowsIn.snoc h3 h4 h5⟩
theorem RowsIn.wide : ∀ {rs : List Row} {w : World} {lo lo' hi hi' : Nat}, RowsIn w lo hi rs → lo' ≤ lo → hi ≤ hi' → RowsIn w lo' hi' rs
  | [], w, lo, lo', hi, hi', h, h1, h2 => Nat.le_trans h1 (Nat.le_trans h h2)
  | q :: rs, w, lo, lo', hi, hi', ⟨m, a1, a2, a3⟩, h1, h2 => ⟨m, Nat.le_trans h1 a1, a2.wide h1 (Nat.le_refl _), RowsIn.wide a3 (Nat.le_refl _) h2⟩
theorem RowsIn.own : ∀ {rs : List Row} {w : World} {lo hi : Nat}, RowsIn w lo hi rs → ∀ r ∈ rs, Own w lo hi r.A r.n r.c r.xs
  | [], _, _, _, _, _, h => (List.not_mem_nil h).elim
  | q :: rs, w, lo, hi, ⟨m, a1, a2, a3⟩, r, h => by
    rcases List.mem_cons.1 h with rfl | h
    · exact a2.wide (Nat.le_refl _) (RowsIn.le a3)
    · exact (RowsIn.own a3 r h).wide a1 (Nat.le_refl _)
theorem RowsIn.len {rs : List Row} {w : World} {lo hi : Nat} (h : RowsIn w lo hi rs) : ∀ r ∈ rs, r.xs.length = r.n := fun r hr => (h.own r hr).slc.length
theorem markRows_mem : ∀ {rs : List Row} {k0 : Int} {k : Nat} {r : Row}, rs[k]? = some r → ({ r with xs := marks (k0 + total (rs.take k)) r.n } : Row) ∈ markRows k0 rs
  | [], _, k, _, h => by simp at h
  | q :: rs, k0, 0, r, h => by
    simp at h; subst h
    simp [markRows, total]
  | q :: rs, k0, k + 1, r, h => by
    have ih := markRows_mem (k0 := k0 + q.n) (k := k) (r := r) (rs := rs) (by simpa using h)
    have e : k0 + (q.n : Int) + (total (rs.take k) : Int) = k0 + (total ((q :: rs).take (k + 1)) : Int) := by simp [total]; omega
    rw [e] at ih
    simp only [markRows, List.mem_cons]
    exact .inr ih
theorem outAt {w : World} {lo hi n c : Nat} {A : Option Addr} {rs : List Row} (h : Slc w lo hi 1 A n c (rs.map Row.val)) {k : Nat} (hk : k < n) :
    ∃ b off r, A = some ⟨b, off, none⟩ ∧ lo ≤ b ∧ b < hi ∧ b < w.heap.size ∧ rs[k]? = some r ∧ w.cell? ⟨b, off + k, none⟩ = some (.slice r.A r.n r.c) := by
  obtain ⟨b, off, e, h1, h2, h3, h4⟩ := h.at_ (by omega)
  have hl : k < rs.length := by have := h.len; simp at this; omega
  exact ⟨b, off, rs[k], e, h1, h2, h3, List.getElem?_eq_getElem hl, h4 k _ (by simp [hl, Row.val])⟩
set_option maxHeartbeats 2000000 in
theorem markIntSS_rows (lo hi lo2 hi2 n c : Nat) (A : Option Addr) (rs : List Row) (k0 : Int) (w : World) (h : Slc w lo hi 1 A n c (rs.map Row.val)) (hr : RowsIn w lo2 hi2 rs) (hd : hi ≤ lo2 ∨ hi2 ≤ lo) (hn : n ≤ 1048576) (hrn : ∀ r ∈ rs, r.n ≤ 1048576) (ht : total rs ≤ 1048576) (hk0 : 0 ≤ k0) (hk1 : k0 ≤ 10000000) :
    Calls Tryd.prog 47 #[.slice A n c, .int .i64 k0] w fun e w' => e = .returned (.int .i64 (k0 + total rs)) ∧ Chg lo2 hi2 w w' ∧ RowsIn w' lo2 hi2 (markRows k0 rs) := by
  have HR := Lib.hid hrn
  have hl : rs.length = n := by have := h.len; simpa using this
  have HL := Lib.hid hl
  have HD := Lib.hid hd
  clear hrn hl hd
  go_enter Tryd.func47, Tryd.ntmps47
  go_wp2
  go_loopw [1, 5] (fun q i wr => ∃ (k mid : Nat), k ≤ n ∧ q = .int .i64 (k0 + total (rs.take k)) ∧ i = .int .i64 k ∧ Chg lo2 hi2 w wr ∧ lo2 ≤ mid ∧ mid ≤ hi2 ∧ RowsIn wr lo2 mid (markRows k0 (rs.take k)) ∧ RowsIn wr mid hi2 (rs.drop k)) (fun _ i _ => n - (intOf i).toNat)
  case atStart => exact ⟨0, lo2, Nat.zero_le _, by simp [total], rfl, Chg.refl _ _ _, Nat.le_refl _, hr.le, Nat.le_refl _, hr⟩
  case round =>
    obtain ⟨k, mid, hk, rfl, rfl, B, m1, m2, r1, r2⟩ := hrel
    have hts := total_le rs k
    by_cases hlt : k < n
    · obtain ⟨b, off, r, rfl, _, _, h3, hrk, hv⟩ := outAt (h.chg B HD.out) hlt
      have hdr : rs.drop k = r :: rs.drop (k + 1) := drop_get hrk
      rw [hdr] at r2
      obtain ⟨m', m3, o1, r3⟩ := r2
      have hrm := HR.out r (List.mem_of_getElem? hrk)
      have m4 := RowsIn.le r3
      have HRK := Lib.hid hrk
      have HR1 := Lib.hid (And.intro r1 r3)
      have i0 : (0 : Int) ≤ (k : Int) := by omega
      have i1 : (k : Int) < (n : Int) := by omega
      clear h hdr hrk r1 r3 hr
      have ht2 := total_take HRK.out
      generalize hT : total (rs.take k) = T at *
      have HT := Lib.hid (And.intro hT ht2)
      clear hT ht2
      go_wp2_with (go_at_call 24; refine (markIntS_any _ _ _ _ _ _ (k0 + T) _ o1 hrm (by omega) (by omega)).mono ?_; rintro e w1 ⟨rfl, o2, b1, _⟩; have HO := Lib.hid (And.intro o2 b1); clear o2 b1)
      go_roundw
      case rel =>
        obtain ⟨o2, b1⟩ := HO.out
        refine ⟨k + 1, m', by omega, ?_, by go_num, B.trans (b1.wide (by omega) (by omega)), by omega, by omega, ?_, HR1.out.2.chg b1 (.inr (Nat.le_refl _))⟩
        · rw [HT.out.2]; congr 1; omega
        · rw [markRows_take HRK.out, HT.out.1]
          exact (HR1.out.1.chg b1 (.inl (Nat.le_refl _))).snoc m3 o2
      case measure => simp [intOf]; omega
    · have e : k = n := by omega
      subst e
      have e2 : rs.take k = rs := List.take_of_length_le (by rw [HL.out]; exact Nat.le_refl _)
      rw [e2] at r1 ⊢
      have HR1 := Lib.hid r1
      clear h r1 r2 hr
      go_wp2
      go_ret
      exact ⟨rfl, B, HR1.out.wide (Nat.le_refl _) m2⟩
set_option maxHeartbeats 2000000 in
theorem heldIntSS_rows (lo hi n c lo2 hi2 : Nat) (A : Option Addr) (rs : List Row) (k0 : Int) (w : World) (h : Slc w lo hi 1 A n c (rs.map Row.val)) (hr : RowsIn w lo2 hi2 (markRows k0 rs)) (hn : n ≤ 1048576) (hrn : ∀ r ∈ rs, r.n ≤ 1048576) (ht : total rs ≤ 1048576) (hk0 : 0 ≤ k0) (hk1 : k0 ≤ 10000000) :
    Calls Tryd.prog 48 #[.slice A n c, .int .i64 k0] w fun e w' => e = .returned (.int .i64 (k0 + total rs)) ∧ w' = w := by
  have HR := Lib.hid (And.intro hrn hr)
  have hl : rs.length = n := by have := h.len; simpa using this
  have HL := Lib.hid hl
  clear hrn hl hr
  go_enter Tryd.func48, Tryd.ntmps48
  go_wp2
  go_loop [1, 5] (fun q i => ∃ (k : Nat), k ≤ n ∧ q = .int .i64 (k0 + total (rs.take k)) ∧ i = .int .i64 k) (fun _ i => n - (intOf i).toNat)
  case atStart => exact ⟨0, Nat.zero_le _, by simp [total], rfl⟩
  case round =>
    obtain ⟨k, hk, rfl, rfl⟩ := hrel
    have hts := total_le rs k
    by_cases hlt : k < n
    · obtain ⟨b, off, r, rfl, _, _, h3, hrk, hv⟩ := outAt h hlt
      have hrm := HR.out.1 r (List.mem_of_getElem? hrk)
      have o1 := (HR.out.2.own _ (markRows_mem (k0 := k0) hrk)).slc
      have HRK := Lib.hid hrk
      have i0 : (0 : Int) ≤ (k : Int) := by omega
      have i1 : (k : Int) < (n : Int) := by omega
      have ht2 := total_take hrk
      have hts2 := total_le rs (k + 1)
      clear h hrk
      generalize hT : total (rs.take k) = T at *
      have HT := Lib.hid (And.intro hT ht2)
      have hT2 : T + r.n ≤ 1048576 := by omega
      clear hT ht2 hts2
      go_wp2_with (go_at_call 26; refine (heldIntS_any _ _ _ _ _ (k0 + T) _ o1 hrm (by omega) (by omega)).mono ?_; rintro e w1 ⟨rfl, rfl⟩)
      go_round
      case rel => exact ⟨k + 1, by omega, by rw [HT.out.2]; congr 1; omega, by go_num⟩
      case measure => simp [intOf]; omega
    · have e : k = n := by omega
      subst e
      have e2 : rs.take k = rs := List.take_of_length_le (by rw [HL.out]; exact Nat.le_refl _)
      rw [e2]
      clear h
      go_wp2
      go_ret
      exact ⟨rfl, rfl⟩
end Go.Proofs.YtojnnemodikpeaaDoor
