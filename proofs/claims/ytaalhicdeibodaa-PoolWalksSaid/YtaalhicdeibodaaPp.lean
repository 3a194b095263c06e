/- Layer 10: plain laws of pools. No program. -/
import Derived.Test.YtaalhicdeibodaaRrem
namespace Go.Proofs.Ytaalhicdeibodaa
set_option linter.unusedVariables false
/-- A pool: its greatest count, its counts, what lasts, its acts (of all times), its floor. -/
structure Pl where
  refs : Int
  cnt : List Int
  last : List Bool
  acts : List (Int × Int)
  floor : Nat
/-- A page's state. -/
def stOf (c : Int) (l : Bool) : Int := if 0 < c then (if l then 4 else 3) else (if l then 2 else 1)
def stsOf (cnt : List Int) (last : List Bool) : List Int := List.zipWith stOf cnt last
def stAt (cnt : List Int) (last : List Bool) (n : Int) : Int := if 1 ≤ n ∧ n ≤ cnt.length then stOf (cnt.getD (n - 1).toNat 0) (last.getD (n - 1).toNat false) else 0
def cntAt (cnt : List Int) (n : Int) : Int := if 1 ≤ n ∧ n ≤ cnt.length then cnt.getD (n - 1).toNat 0 else 0
def bump (cnt : List Int) (n b : Int) : List Int := cnt.set (n - 1).toNat (cnt.getD (n - 1).toNat 0 + b)
def talOf (sts : List Int) (k : Int) : Int := if 1 ≤ k ∧ k ≤ 4 then (sts.count k : Int) else 0
def pgsTo (sts : List Int) (k : Int) (i : Nat) : List Int := ((List.range i).filter (fun j : Nat => sts.getD j 0 == k)).map (fun j : Nat => (j : Int) + 1)
/-- The runs of the free pages among the first i. -/
def FreeTo (sts : List Int) (i : Nat) (L : List Rn) : Prop := WfR L ∧ ∀ x, memR L x ↔ (1 ≤ x ∧ x ≤ i ∧ sts.getD (x - 1).toNat 0 = 1)
abbrev FreeL (sts : List Int) (L : List Rn) : Prop := FreeTo sts sts.length L
/-- The lowest free page; 0: none. -/
def lowF (sts : List Int) : Int := if sts.findIdx (· == 1) < sts.length then (sts.findIdx (· == 1) : Int) + 1 else 0
def backC (cnt : List Int) (as : List (Int × Int)) : List Int := as.foldr (fun a c => bump c a.1 (-a.2)) cnt
theorem bump_len (cnt : List Int) (n b : Int) : (bump cnt n b).length = cnt.length := by simp [bump]
theorem backC_len (cnt : List Int) : ∀ as : List (Int × Int), (backC cnt as).length = cnt.length
  | [] => rfl
  | a :: as => by
    show (bump (backC cnt as) a.1 (-a.2)).length = _
    rw [bump_len, backC_len cnt as]
theorem sts_len {cnt : List Int} {last : List Bool} (h : last.length = cnt.length) : (stsOf cnt last).length = cnt.length := by simp [stsOf, h]
theorem sts_at {cnt : List Int} {last : List Bool} (h : last.length = cnt.length) {i : Nat} (hi : i < cnt.length) : (stsOf cnt last).getD i 0 = stOf (cnt.getD i 0) (last.getD i false) := by
  have h1 : i < last.length := by omega
  simp [stsOf, List.getD_eq_getElem?_getD, List.getElem?_zipWith, List.getElem?_eq_getElem hi, List.getElem?_eq_getElem h1]
theorem stAt_eq {cnt : List Int} {last : List Bool} (h : last.length = cnt.length) (n : Int) : stAt cnt last n = if 1 ≤ n ∧ n ≤ cnt.length then (stsOf cnt last).getD (n - 1).toNat 0 else 0 := by
  unfold stAt
  by_cases hn : 1 ≤ n ∧ n ≤ cnt.length
  · rw [if_pos hn, if_pos hn, sts_at h (by omega)]
  · rw [if_neg hn, if_neg hn]
theorem stOf_bd (c : Int) (l : Bool) : 1 ≤ stOf c l ∧ stOf c l ≤ 4 := by
  unfold stOf
  split <;> cases l <;> simp
/-- What a turn does to the states. -/
theorem sts_bump {cnt : List Int} {last : List Bool} (h : last.length = cnt.length) {n b : Int} (h1 : 1 ≤ n) (h2 : n ≤ cnt.length) :
    stsOf (bump cnt n b) last = (stsOf cnt last).set (n - 1).toNat (stOf (cnt.getD (n - 1).toNat 0 + b) (last.getD (n - 1).toNat false)) := by
  have hi : (n - 1).toNat < cnt.length := by omega
  unfold bump
  generalize (n - 1).toNat = m at hi
  refine List.ext_getElem (by simp [stsOf]) fun i hi1 hi2 => ?_
  have hl : i < last.length := by simp [stsOf] at hi1; omega
  have hc : i < cnt.length := by omega
  simp only [stsOf, List.getElem_zipWith, List.getElem_set]
  by_cases e : m = i
  · subst e
    simp [List.getD_eq_getElem?_getD, List.getElem?_eq_getElem hl]
  · simp [e]
theorem count_set' {l : List Int} {i : Nat} {a : Int} (h : i < l.length) (k : Int) : ((l.set i a).count k : Int) = (l.count k : Int) - (if l.getD i 0 = k then 1 else 0) + (if a = k then 1 else 0) := by
  induction l generalizing i with
  | nil => simp at h
  | cons x l ih =>
    cases i with
    | zero =>
      simp only [List.set_cons_zero, List.count_cons, List.getD_cons_zero]
      by_cases e1 : x = k <;> by_cases e2 : a = k <;> simp [e1, e2] <;> omega
    | succ i =>
      have := @ih i (by simpa using h)
      simp only [List.set_cons_succ, List.count_cons, List.getD_cons_succ]
      push_cast
      rw [this]
      omega
/-- A count in the list. -/
theorem tal_set {sts : List Int} {i : Nat} {a : Int} (h : i < sts.length) (k : Int) (hk : 1 ≤ k ∧ k ≤ 4) : talOf (sts.set i a) k = talOf sts k - (if sts.getD i 0 = k then 1 else 0) + (if a = k then 1 else 0) := by
  unfold talOf
  rw [if_pos hk, if_pos hk, count_set' h]
theorem tal_bd (sts : List Int) (k : Int) : 0 ≤ talOf sts k ∧ talOf sts k ≤ sts.length := by
  unfold talOf
  have := List.count_le_length (a := k) (l := sts)
  split <;> omega
/-- The free pages behind a turn. -/
theorem free_turn {sts : List Int} {L : List Rn} {n now : Int} (hL : FreeL sts L) (h1 : 1 ≤ n) (h2 : n ≤ sts.length) :
    FreeL (sts.set (n - 1).toNat now) (if sts.getD (n - 1).toNat 0 = now then L else if sts.getD (n - 1).toNat 0 = 1 then remL L n n else if now = 1 then addL L ⟨n, n⟩ else L) := by
  obtain ⟨hw, hm⟩ := hL
  have hi : (n - 1).toNat < sts.length := by omega
  have hg : ∀ x : Int, 1 ≤ x → x ≤ sts.length → (sts.set (n - 1).toNat now).getD (x - 1).toNat 0 = if x = n then now else sts.getD (x - 1).toNat 0 := fun x hx1 hx2 => by
    have hxi : (x - 1).toNat < sts.length := by omega
    rw [List.getD_eq_getElem?_getD, List.getElem?_set]
    by_cases e : x = n
    · subst e
      rw [if_pos rfl, if_pos hi, if_pos rfl]
      rfl
    · have : (n - 1).toNat ≠ (x - 1).toNat := by omega
      rw [if_neg this, if_neg e, List.getD_eq_getElem?_getD]
  by_cases e0 : sts.getD (n - 1).toNat 0 = now
  · rw [if_pos e0]
    refine ⟨hw, fun x => ?_⟩
    rw [hm, List.length_set]
    refine and_congr_right fun hx1 => and_congr_right fun hx2 => ?_
    rw [hg x hx1 hx2]
    by_cases e : x = n
    · subst e; rw [if_pos rfl, e0]
    · rw [if_neg e]
  · rw [if_neg e0]
    by_cases e1 : sts.getD (n - 1).toNat 0 = 1
    · rw [if_pos e1]
      obtain ⟨r1, r2⟩ := remL_ok hw n n (Int.le_refl _)
      refine ⟨r1, fun x => ?_⟩
      rw [r2, hm, List.length_set]
      constructor
      · rintro ⟨⟨a, b, c⟩, d⟩
        refine ⟨a, b, ?_⟩
        rw [hg x a b, if_neg (fun e => d ⟨by omega, by omega⟩)]
        exact c
      · rintro ⟨a, b, c⟩
        rw [hg x a b] at c
        by_cases e : x = n
        · rw [if_pos e] at c
          exact absurd (e1.trans c.symm) e0
        · rw [if_neg e] at c
          exact ⟨⟨a, b, c⟩, fun ⟨u, v⟩ => e (by omega)⟩
    · rw [if_neg e1]
      by_cases e2 : now = 1
      · rw [if_pos e2]
        obtain ⟨r1, r2⟩ := addL_ok hw ⟨n, n⟩
        refine ⟨r1, fun x => ?_⟩
        rw [r2, hm, List.length_set]
        constructor
        · rintro (⟨a, b, c⟩ | ⟨a, b⟩)
          · refine ⟨a, b, ?_⟩
            rw [hg x a b]
            split
            · exact e2
            · exact c
          · have e : x = n := by simp only at a b; omega
            subst e
            refine ⟨h1, h2, ?_⟩
            rw [hg x h1 h2, if_pos rfl]
            exact e2
        · rintro ⟨a, b, c⟩
          rw [hg x a b] at c
          by_cases e : x = n
          · exact .inr ⟨by simp only; omega, by simp only; omega⟩
          · rw [if_neg e] at c
            exact .inl ⟨a, b, c⟩
      · rw [if_neg e2]
        refine ⟨hw, fun x => ?_⟩
        rw [hm, List.length_set]
        refine and_congr_right fun hx1 => and_congr_right fun hx2 => ?_
        rw [hg x hx1 hx2]
        by_cases e : x = n
        · subst e
          rw [if_pos rfl]
          exact ⟨fun h => absurd h e1, fun h => absurd h e2⟩
        · rw [if_neg e]
theorem free_bd {sts : List Int} {i : Nat} {L : List Rn} (h : FreeTo sts i L) : ∀ r ∈ L, 1 ≤ r.lo ∧ r.hi ≤ i := fun r hr => by
  have hle := h.1.each r hr
  have a := (h.2 r.lo).1 ⟨r, hr, Int.le_refl _, hle⟩
  have b := (h.2 r.hi).1 ⟨r, hr, hle, Int.le_refl _⟩
  exact ⟨a.1, b.2.1⟩
/-- As many runs as numbers, at the most. -/
theorem wf_len {m M : Int} : ∀ {L : List Rn}, WfR L → (∀ r ∈ L, m ≤ r.lo ∧ r.hi ≤ M) → (L.length : Int) ≤ max 0 (M + 1 - m)
  | [], _, _ => by simp; omega
  | r :: L, h, hb => by
    have hr := h.each r (List.mem_cons_self ..)
    have h0 := hb r (List.mem_cons_self ..)
    have hb' : ∀ s ∈ L, r.hi + 2 ≤ s.lo ∧ s.hi ≤ M := fun s hs => by
      have h1 := h.tail_gt (x := s.lo) ⟨s, hs, Int.le_refl _, (h.each s (List.mem_cons_of_mem _ hs))⟩
      exact ⟨by omega, (hb s (List.mem_cons_of_mem _ hs)).2⟩
    have := wf_len (m := r.hi + 2) (M := M) (L := L) h.2.2 hb'
    simp only [List.length_cons]
    push_cast
    omega
theorem free_len {sts : List Int} {i : Nat} {L : List Rn} (h : FreeTo sts i L) : L.length ≤ i := by
  have := wf_len h.1 (free_bd h)
  omega
/-- The lowest free page out of the runs. -/
theorem free_low {sts : List Int} {L : List Rn} (h : FreeL sts L) : lowF sts = (lowL L).1 ∧ (L = [] ↔ lowF sts = 0) := by
  obtain ⟨hw, hm⟩ := h
  cases L with
  | nil =>
    have hn : ¬ sts.findIdx (· == 1) < sts.length := fun hlt => by
      have h1 := List.findIdx_getElem (w := hlt)
      have := (hm ((sts.findIdx (· == 1) : Int) + 1)).2 ⟨by omega, by omega, by
        rw [show ((sts.findIdx (· == 1) : Int) + 1 - 1).toNat = sts.findIdx (· == 1) by omega, List.getD_eq_getElem?_getD, List.getElem?_eq_getElem hlt]
        simpa using h1⟩
      exact mem_nil this
    unfold lowF
    rw [if_neg hn]
    exact ⟨rfl, by simp⟩
  | cons r L =>
    have hr := hw.each r (List.mem_cons_self ..)
    obtain ⟨a, b, c⟩ := (hm r.lo).1 ⟨r, List.mem_cons_self .., Int.le_refl _, hr⟩
    have hlt : (r.lo - 1).toNat < sts.length := by omega
    have he : sts.findIdx (· == 1) = (r.lo - 1).toNat := (List.findIdx_eq hlt).2 ⟨by
      rw [List.getD_eq_getElem?_getD, List.getElem?_eq_getElem hlt] at c
      simpa using c, fun j hj => by
      have hjl : j < sts.length := by omega
      by_cases e : sts[j] = 1
      · have := (hm ((j : Int) + 1)).2 ⟨by omega, by omega, by
          rw [show ((j : Int) + 1 - 1).toNat = j by omega, List.getD_eq_getElem?_getD, List.getElem?_eq_getElem hjl]
          simpa using e⟩
        have := hw.least this
        omega
      · simpa using e⟩
    unfold lowF
    rw [if_pos (by omega), he]
    refine ⟨?_, ?_⟩
    · show _ = r.lo
      omega
    · constructor
      · intro h; cases h
      · intro h; omega
theorem lowF_bd (sts : List Int) : 0 ≤ lowF sts ∧ lowF sts ≤ sts.length := by
  unfold lowF
  split <;> omega
theorem lowF_free {sts : List Int} (h : lowF sts ≠ 0) : sts.getD (lowF sts - 1).toNat 0 = 1 := by
  unfold lowF at h ⊢
  split
  · rename_i hlt
    rw [show ((sts.findIdx (· == 1) : Int) + 1 - 1).toNat = sts.findIdx (· == 1) by omega, List.getD_eq_getElem?_getD, List.getElem?_eq_getElem hlt]
    have := List.findIdx_getElem (w := hlt)
    simpa using this
  · rename_i hlt
    rw [if_neg hlt] at h
    exact absurd rfl h
theorem lowF_is {sts : List Int} {i : Nat} (hi : i < sts.length) (h : sts.getD i 0 = 1) (hb : ∀ j, j < i → sts.getD j 0 ≠ 1) : lowF sts = (i : Int) + 1 := by
  have he : sts.findIdx (· == 1) = i := (List.findIdx_eq hi).2 ⟨by
    rw [List.getD_eq_getElem?_getD, List.getElem?_eq_getElem hi] at h
    simpa using h, fun j hj => by
    have hjl : j < sts.length := by omega
    have := hb j hj
    rw [List.getD_eq_getElem?_getD, List.getElem?_eq_getElem hjl] at this
    simpa using this⟩
  unfold lowF
  rw [he, if_pos hi]
theorem lowF_none {sts : List Int} (hb : ∀ j, j < sts.length → sts.getD j 0 ≠ 1) : lowF sts = 0 := by
  unfold lowF
  by_cases hlt : sts.findIdx (· == 1) < sts.length
  · have h1 := List.findIdx_getElem (w := hlt)
    have := hb _ hlt
    rw [List.getD_eq_getElem?_getD, List.getElem?_eq_getElem hlt] at this
    exact absurd (by simpa using h1) this
  · rw [if_neg hlt]
theorem pgsTo_succ (sts : List Int) (k : Int) (i : Nat) : pgsTo sts k (i + 1) = pgsTo sts k i ++ (if sts.getD i 0 = k then [(i : Int) + 1] else []) := by
  unfold pgsTo
  rw [List.range_succ, List.filter_append, List.map_append]
  congr 1
  by_cases e : sts.getD i 0 = k
  · rw [if_pos e, List.filter_cons_of_pos (by rw [e]; simp)]
    rfl
  · rw [if_neg e, List.filter_cons_of_neg (by simpa using e)]
    rfl
theorem pgsTo_len (sts : List Int) (k : Int) (i : Nat) : (pgsTo sts k i).length ≤ i := by
  unfold pgsTo
  rw [List.length_map]
  exact Nat.le_trans (List.length_filter_le _ _) (by simp)
theorem pgsTo_tal (sts : List Int) (k : Int) : ((pgsTo sts k sts.length).length : Int) = (sts.count k : Int) := by
  have : ∀ (i : Nat), i ≤ sts.length → (pgsTo sts k i).length = (sts.take i).count k := by
    intro i
    induction i with
    | zero => intro _; rfl
    | succ i ih =>
      intro hi
      have hlt : i < sts.length := by omega
      rw [pgsTo_succ, List.length_append, ih (by omega), List.take_succ_eq_append_getElem hlt, List.count_append]
      congr 1
      rw [List.getD_eq_getElem?_getD, List.getElem?_eq_getElem hlt]
      by_cases e : sts[i] = k <;> simp [e]
  rw [this _ (Nat.le_refl _), List.take_length]
end Go.Proofs.Ytaalhicdeibodaa
