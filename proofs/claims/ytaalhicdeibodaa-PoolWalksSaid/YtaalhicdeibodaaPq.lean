/- Layer 10: plain laws of pools: the calls, what holds of every pool. No program. -/
import Derived.Test.YtaalhicdeibodaaPp
namespace Go.Proofs.Ytaalhicdeibodaa
set_option linter.unusedVariables false
abbrev Pl.sts (s : Pl) : List Int := stsOf s.cnt s.last
def Pl.act (s : Pl) (n b : Int) : Pl := { s with cnt := bump s.cnt n b, acts := s.acts ++ [(n, b)] }
def Pl.allocE (s : Pl) : Int := if lowF s.sts = 0 then 12 else 0
def Pl.allocS (s : Pl) : Pl := if lowF s.sts = 0 then s else s.act (lowF s.sts) 1
def Pl.incE (s : Pl) (n : Int) : Int := if cntAt s.cnt n = 0 then 15 else if cntAt s.cnt n = s.refs then 13 else 0
def Pl.incS (s : Pl) (n : Int) : Pl := if s.incE n = 0 then s.act n 1 else s
def Pl.decE (s : Pl) (n : Int) : Int := if cntAt s.cnt n = 0 then 15 else 0
def Pl.decS (s : Pl) (n : Int) : Pl := if cntAt s.cnt n = 0 then s else s.act n (-1)
def Pl.decN (s : Pl) (n : Int) : Int := cntAt (s.decS n).cnt n
def Pl.undoB (s : Pl) (m : Int) : Bool := decide ((s.floor : Int) ≤ m ∧ m ≤ s.acts.length)
def Pl.undoS (s : Pl) (m : Int) : Pl := if s.undoB m = true then { s with cnt := backC s.cnt (s.acts.drop m.toNat), acts := s.acts.take m.toNat } else s
def lastOf (cnt : List Int) : List Bool := cnt.map fun c => decide (0 < c)
def Pl.settleS (s : Pl) : Pl := { s with last := lastOf s.cnt, floor := s.acts.length }
def newS (refs : Int) (n : Nat) : Pl := ⟨refs, List.replicate n 0, List.replicate n false, [], 0⟩
def loadS (refs : Int) (cs : List Int) : Pl := ⟨refs, cs, lastOf cs, [], 0⟩
/-- What holds of every pool; N: how many acts it may have. -/
structure Pl.Ok (s : Pl) (N : Nat) : Prop where
  refs : 2 ≤ s.refs ∧ s.refs ≤ 65535
  len : 1 ≤ s.cnt.length ∧ s.cnt.length ≤ 65536
  last : s.last.length = s.cnt.length
  acts : s.acts.length ≤ N
  floor : s.floor ≤ s.acts.length
  pg : ∀ a ∈ s.acts.drop s.floor, 1 ≤ a.1 ∧ a.1 ≤ s.cnt.length ∧ (a.2 = 1 ∨ a.2 = -1)
  bd : ∀ k, s.floor ≤ k → k ≤ s.acts.length → ∀ c ∈ backC s.cnt (s.acts.drop k), 0 ≤ c ∧ c ≤ s.refs
theorem Pl.Ok.cnt {s : Pl} {N : Nat} (h : s.Ok N) : ∀ c ∈ s.cnt, 0 ≤ c ∧ c ≤ s.refs := by
  have := h.bd s.acts.length h.floor (Nat.le_refl _)
  rw [List.drop_length] at this
  exact this
theorem cnt_at {cnt : List Int} {M : Int} (h : ∀ c ∈ cnt, 0 ≤ c ∧ c ≤ M) (hM : 0 ≤ M) (i : Nat) : 0 ≤ cnt.getD i 0 ∧ cnt.getD i 0 ≤ M := by
  rw [List.getD_eq_getElem?_getD]
  by_cases hi : i < cnt.length
  · rw [List.getElem?_eq_getElem hi]
    exact h _ (List.getElem_mem hi)
  · rw [List.getElem?_eq_none (by omega)]
    exact ⟨Int.le_refl _, hM⟩
theorem cntAt_bd {s : Pl} {N : Nat} (h : s.Ok N) (n : Int) : 0 ≤ cntAt s.cnt n ∧ cntAt s.cnt n ≤ s.refs := by
  have := h.refs
  unfold cntAt
  split
  · exact cnt_at h.cnt (by omega) _
  · omega
theorem bump_mem {cnt : List Int} {n b c : Int} (hc : c ∈ bump cnt n b) : c ∈ cnt ∨ c = cnt.getD (n - 1).toNat 0 + b := by
  unfold bump at hc
  rcases List.mem_or_eq_of_mem_set hc with h | h
  · exact .inl h
  · exact .inr h
theorem bump_back (cnt : List Int) {n b : Int} (h1 : 1 ≤ n) (h2 : n ≤ cnt.length) : bump (bump cnt n b) n (-b) = cnt := by
  have hi : (n - 1).toNat < cnt.length := by omega
  unfold bump
  generalize (n - 1).toNat = m at hi
  rw [List.set_set, List.getD_eq_getElem?_getD, List.getElem?_set, if_pos rfl, if_pos hi, Option.getD_some, List.getD_eq_getElem?_getD, List.getElem?_eq_getElem hi, Option.getD_some, show cnt[m] + b + -b = cnt[m] by omega, List.set_getElem_self]
theorem backC_snoc (cnt : List Int) (as : List (Int × Int)) (n b : Int) : backC cnt (as ++ [(n, b)]) = backC (bump cnt n (-b)) as := by
  simp [backC, List.foldr_append]
theorem cntAt_bump {cnt : List Int} {n b : Int} (h1 : 1 ≤ n) (h2 : n ≤ cnt.length) : cntAt (bump cnt n b) n = cnt.getD (n - 1).toNat 0 + b := by
  have hi : (n - 1).toNat < cnt.length := by omega
  unfold cntAt
  rw [bump_len, if_pos ⟨h1, h2⟩, bump, List.getD_eq_getElem?_getD, List.getElem?_set, if_pos rfl, if_pos hi, Option.getD_some]
theorem Pl.Ok.mono {s : Pl} {N M : Nat} (h : s.Ok N) (hm : N ≤ M) : s.Ok M := ⟨h.refs, h.len, h.last, Nat.le_trans h.acts hm, h.floor, h.pg, h.bd⟩
theorem Pl.Ok.act {s : Pl} {N : Nat} (h : s.Ok N) {n b : Int} (h1 : 1 ≤ n) (h2 : n ≤ s.cnt.length) (hb : b = 1 ∨ b = -1) (hc : 0 ≤ s.cnt.getD (n - 1).toNat 0 + b ∧ s.cnt.getD (n - 1).toNat 0 + b ≤ s.refs) : (s.act n b).Ok (N + 1) := by
  have hfl := h.floor
  have ha := h.acts
  refine ⟨h.refs, ?_, ?_, ?_, ?_, ?_, ?_⟩
  · show 1 ≤ (bump s.cnt n b).length ∧ _
    rw [show (s.act n b).cnt = bump s.cnt n b from rfl, bump_len]
    exact h.len
  · show s.last.length = (bump s.cnt n b).length
    rw [bump_len]
    exact h.last
  · show (s.acts ++ [(n, b)]).length ≤ _
    simp
    omega
  · show s.floor ≤ (s.acts ++ [(n, b)]).length
    simp
    omega
  · intro a ha
    change a ∈ (s.acts ++ [(n, b)]).drop s.floor at ha
    show _ ∧ a.1 ≤ ((bump s.cnt n b).length : Int) ∧ _
    rw [bump_len]
    rw [List.drop_append_of_le_length hfl] at ha
    rcases List.mem_append.1 ha with ha | ha
    · exact h.pg a ha
    · rcases List.mem_singleton.1 ha
      exact ⟨h1, h2, hb⟩
  · intro k hk1 hk2 c hcm
    change k ≤ (s.acts ++ [(n, b)]).length at hk2
    change c ∈ backC (bump s.cnt n b) ((s.acts ++ [(n, b)]).drop k) at hcm
    by_cases hk : k ≤ s.acts.length
    · rw [List.drop_append_of_le_length hk, backC_snoc, bump_back _ h1 h2] at hcm
      exact h.bd k hk1 hk c hcm
    · rw [List.drop_eq_nil_of_le (by simp at hk2 ⊢; omega)] at hcm
      rcases bump_mem hcm with h' | rfl
      · exact h.cnt c h'
      · exact hc
theorem stOf_one {c : Int} {l : Bool} (h : stOf c l = 1) : ¬ 0 < c ∧ l = false := by
  unfold stOf at h
  split at h <;> cases l <;> simp_all
theorem Pl.Ok.low {s : Pl} {N : Nat} (h : s.Ok N) (h0 : lowF s.sts ≠ 0) : (1 ≤ lowF s.sts ∧ lowF s.sts ≤ s.cnt.length) ∧ s.cnt.getD (lowF s.sts - 1).toNat 0 = 0 ∧ s.last.getD (lowF s.sts - 1).toNat false = false := by
  have hb := lowF_bd s.sts
  have hl : s.sts.length = s.cnt.length := sts_len h.last
  have hf := lowF_free h0
  rw [sts_at h.last (by omega)] at hf
  obtain ⟨a, b⟩ := stOf_one hf
  have := cnt_at h.cnt (by have := h.refs; omega) (lowF s.sts - 1).toNat
  exact ⟨by omega, by omega, b⟩
theorem Pl.Ok.alloc {s : Pl} {N : Nat} (h : s.Ok N) : s.allocS.Ok (N + 1) := by
  unfold Pl.allocS
  have hr := h.refs
  split
  · exact h.mono (Nat.le_succ _)
  · rename_i h0
    obtain ⟨⟨a, b⟩, c, _⟩ := h.low h0
    exact h.act a b (.inl rfl) (by rw [c]; omega)
theorem cntAt_in {cnt : List Int} {n : Int} (h : cntAt cnt n ≠ 0) : 1 ≤ n ∧ n ≤ cnt.length ∧ cntAt cnt n = cnt.getD (n - 1).toNat 0 := by
  unfold cntAt at h ⊢
  split
  · rename_i hn
    exact ⟨hn.1, hn.2, rfl⟩
  · rename_i hn
    rw [if_neg hn] at h
    exact absurd rfl h
theorem Pl.Ok.inc {s : Pl} {N : Nat} (h : s.Ok N) (n : Int) : (s.incS n).Ok (N + 1) := by
  have hb := cntAt_bd h n
  unfold Pl.incS Pl.incE
  by_cases h0 : cntAt s.cnt n = 0
  · rw [if_pos h0, if_neg (by decide)]
    exact h.mono (Nat.le_succ _)
  · by_cases h1 : cntAt s.cnt n = s.refs
    · rw [if_neg h0, if_pos h1, if_neg (by decide)]
      exact h.mono (Nat.le_succ _)
    · rw [if_neg h0, if_neg h1, if_pos rfl]
      obtain ⟨a, b, c⟩ := cntAt_in h0
      exact h.act a b (.inl rfl) (by omega)
theorem Pl.Ok.dec {s : Pl} {N : Nat} (h : s.Ok N) (n : Int) : (s.decS n).Ok (N + 1) := by
  have hb := cntAt_bd h n
  unfold Pl.decS
  by_cases h0 : cntAt s.cnt n = 0
  · rw [if_pos h0]
    exact h.mono (Nat.le_succ _)
  · rw [if_neg h0]
    obtain ⟨a, b, c⟩ := cntAt_in h0
    exact h.act a b (.inr rfl) (by omega)
theorem backC_app (cnt : List Int) (as bs : List (Int × Int)) : backC cnt (as ++ bs) = backC (backC cnt bs) as := by simp [backC, List.foldr_append]
theorem Pl.Ok.undo {s : Pl} {N : Nat} (h : s.Ok N) (m : Int) : (s.undoS m).Ok N := by
  have hfl := h.floor
  have hac := h.acts
  unfold Pl.undoS
  by_cases hm : s.undoB m = true
  · rw [if_pos hm]
    obtain ⟨h1, h2⟩ := of_decide_eq_true hm
    refine ⟨h.refs, ?_, ?_, ?_, ?_, ?_, ?_⟩
    · show 1 ≤ (backC s.cnt _).length ∧ (backC s.cnt _).length ≤ 65536
      rw [backC_len]; exact h.len
    · show s.last.length = (backC s.cnt _).length
      rw [backC_len]; exact h.last
    · show (s.acts.take m.toNat).length ≤ N
      rw [List.length_take]; omega
    · show s.floor ≤ (s.acts.take m.toNat).length
      rw [List.length_take]; omega
    · intro a ha
      show _ ∧ a.1 ≤ ((backC s.cnt _).length : Int) ∧ _
      rw [backC_len]
      change a ∈ (s.acts.take m.toNat).drop s.floor at ha
      exact h.pg a (by rw [List.drop_take] at ha; exact List.mem_of_mem_take ha)
    · intro k hk1 hk2 c hc
      change k ≤ (s.acts.take m.toNat).length at hk2
      rw [List.length_take] at hk2
      change c ∈ backC (backC s.cnt (s.acts.drop m.toNat)) ((s.acts.take m.toNat).drop k) at hc
      rw [← backC_app] at hc
      refine h.bd k hk1 (by omega) c ?_
      rw [← List.take_append_drop m.toNat s.acts, List.drop_append_of_le_length (by rw [List.length_take]; omega)]
      exact hc
  · rw [if_neg hm]
    exact h
theorem Pl.Ok.settle {s : Pl} {N : Nat} (h : s.Ok N) : s.settleS.Ok N := by
  refine ⟨h.refs, h.len, by simp [Pl.settleS, lastOf], h.acts, Nat.le_refl _, ?_, ?_⟩
  · intro a ha
    change a ∈ s.acts.drop s.acts.length at ha
    rw [List.drop_length] at ha
    cases ha
  · intro k hk1 hk2 c hc
    change s.acts.length ≤ k at hk1
    change k ≤ s.acts.length at hk2
    change c ∈ backC s.cnt (s.acts.drop k) at hc
    rw [List.drop_eq_nil_of_le (by omega)] at hc
    exact h.cnt c hc
theorem load_ok {refs : Int} {cs : List Int} (h1 : 2 ≤ refs ∧ refs ≤ 65535) (h2 : 1 ≤ cs.length ∧ cs.length ≤ 65536) (h3 : ∀ c ∈ cs, 0 ≤ c ∧ c ≤ refs) : (loadS refs cs).Ok 0 := by
  refine ⟨h1, h2, by simp [loadS, lastOf], Nat.le_refl _, Nat.le_refl _, ?_, ?_⟩
  · intro a ha; cases ha
  · intro k hk1 hk2 c hc
    have : c ∈ cs := by
      change c ∈ backC cs (([] : List (Int × Int)).drop k) at hc
      rw [List.drop_nil] at hc
      exact hc
    exact h3 c this
theorem lastOf_zero (n : Nat) : lastOf (List.replicate n 0) = List.replicate n false := by simp [lastOf]
theorem new_load (refs : Int) (n : Nat) : newS refs n = loadS refs (List.replicate n 0) := by
  unfold newS loadS
  rw [lastOf_zero]
theorem new_ok {refs : Int} {n : Nat} (h1 : 2 ≤ refs ∧ refs ≤ 65535) (h2 : 1 ≤ n ∧ n ≤ 65536) : (newS refs n).Ok 0 := by
  rw [new_load]
  refine load_ok h1 (by simpa using h2) ?_
  intro c hc
  rw [List.eq_of_mem_replicate hc]
  omega
/-- What the law asks. -/
structure Ans where
  n : Int
  m : Int
  is : Bool
  l : List Int
  e : Int
def Ans.nil : Ans := ⟨0, 0, false, [], 0⟩
def stopL (stop : Int) (l : List Int) : List Int := if stop < 0 then l else l.take stop.toNat
def Pl.pages (s : Pl) (k : Int) : List Int := pgsTo s.sts k s.cnt.length
def agoZ (marks : List Int) (n : Int) : Int := if n < 0 ∨ (marks.length : Int) ≤ n then -1 else marks.getD (marks.length - 1 - n.toNat) 0
def Pl.did (s : Pl) (k n : Int) : Pl := if k = 0 then s.allocS else if k = 1 then s.incS n else if k = 2 then s.decS n else if k = 10 then s.settleS else s
def Pl.askA (s : Pl) (k n stop : Int) (marks : List Int) : Ans :=
  if k = 0 then ⟨lowF s.sts, 0, false, [], s.allocE⟩ else if k = 1 then ⟨0, 0, false, [], s.incE n⟩ else if k = 2 then ⟨s.decN n, 0, false, [], s.decE n⟩
  else if k = 3 then ⟨cntAt s.cnt n, 0, false, [], 0⟩ else if k = 4 then ⟨stAt s.cnt s.last n, 0, false, [], 0⟩ else if k = 5 then ⟨talOf s.sts n, 0, false, [], 0⟩
  else if k = 6 then ⟨0, 0, false, stopL stop (s.pages n), 0⟩ else if k = 7 then ⟨0, 0, false, s.cnt, 0⟩ else if k = 8 then ⟨s.acts.length, 0, false, [], 0⟩
  else if k = 9 then ⟨0, 0, s.undoB n, [], 0⟩ else if k = 10 then Ans.nil else if k = 11 then ⟨s.cnt.length, s.refs, false, [], 0⟩ else ⟨0, 0, s.undoB (agoZ marks n), [], 0⟩
def Pl.askS (s : Pl) (k n : Int) (marks : List Int) : Pl :=
  if k = 9 then s.undoS n else if 0 ≤ k ∧ k ≤ 11 then s.did k n else s.undoS (agoZ marks n)
theorem Pl.Ok.did {s : Pl} {N : Nat} (h : s.Ok N) (k n : Int) : (s.did k n).Ok (N + 1) := by
  unfold Pl.did
  split
  · exact h.alloc
  · split
    · exact h.inc n
    · split
      · exact h.dec n
      · split
        · exact h.settle.mono (Nat.le_succ _)
        · exact h.mono (Nat.le_succ _)
theorem Pl.Ok.ask {s : Pl} {N : Nat} (h : s.Ok N) (k n : Int) (marks : List Int) : (s.askS k n marks).Ok (N + 1) := by
  unfold Pl.askS
  split
  · exact (h.undo n).mono (Nat.le_succ _)
  · split
    · exact h.did k n
    · exact (h.undo _).mono (Nat.le_succ _)
end Go.Proofs.Ytaalhicdeibodaa
