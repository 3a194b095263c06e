/- Layer 10: Settle of a pool, Clone, Counts, right, over, New, Min, Max, Load. No condition but the sizes. -/
import Derived.Test.YtaalhicdeibodaaPg
namespace Go.Proofs.Ytaalhicdeibodaa
open Go.RowKit Go.Proofs Go.Shelf
set_option linter.unusedVariables false
attribute [local go_sem] Oper.semAt_some
theorem infoI : (Try.prog.info? 3).map (fun i => (i.zero, i.size, i.bytes)) = some (some (.int .i64 0), 1, 8) := by kernel_rfl
theorem infoT : (Try.prog.info? 4).map (fun i => (i.zero, i.size, i.bytes)) = some (some (.bool false), 1, 1) := by kernel_rfl
theorem info_split {P : Program} {t : TypeId} {z : Value} {s b : Nat} (h : (P.info? t).map (fun i => (i.zero, i.size, i.bytes)) = some (some z, s, b)) : ∃ i, P.info? t = some i ∧ i.zero = some z ∧ i.size = s ∧ i.bytes = b := by
  obtain ⟨i, hi, he⟩ := Option.map_eq_some_iff.1 h
  injection he with e1 e2
  injection e2 with e2 e3
  exact ⟨i, hi, e1, e2, e3⟩
theorem ic_one (l : List Int) : ∀ u ∈ ic l, u.oneCell' = true := by
  intro u hu
  obtain ⟨z, _, rfl⟩ := List.mem_map.1 hu
  rfl
theorem RowI.nl {B : Nat} {w : World} {A : Option Addr} {c : Nat} {l : List Int} (h : RowI B w A c l) (hb : ∀ z ∈ l, -9223372036854775808 ≤ z ∧ z ≤ 9223372036854775807) : NLi w A c l := by
  refine ⟨fun hn => ?_, h.le.1, hb⟩
  obtain ⟨g, rfl, _, _, _, _⟩ := h.at hn
  refine ⟨g, 0, rfl, fun i z hi => ?_⟩
  obtain ⟨hl, rfl⟩ := List.getElem?_eq_some_iff.1 hi
  obtain ⟨g', e, _, _, q, _⟩ := h.at hl
  injection e with e
  injection e with e
  subst e
  rw [Nat.zero_add, q]
  simp [List.getD_eq_getElem?_getD, List.getElem?_eq_getElem hl]
theorem NLi.ext {w w' : World} {A : Option Addr} {c : Nat} {l : List Int} (h : NLi w A c l) (he : Ext w w') : NLi w' A c l := ⟨fun hn => by
  obtain ⟨b, off, hA, hc⟩ := h.rd hn
  exact ⟨b, off, hA, fun i z hi => he.cell (hc i z hi)⟩, h.le, h.bd⟩
theorem settle_any {B N : Nat} {w : World} {m : Pm} {s : Pl} (h : PoolS B N w m s) (hN : N ≤ 100000) (hBw : B ≤ w.heap.size) :
    Calls Try.prog 30 #[.pointer (some ⟨m.p, 0, none⟩)] w fun e w' => ∃ m', e = .returned (.tuple #[]) ∧ PoolS B N w' m' s.settleS ∧ Moved m m' w w' := by
  obtain ⟨L, hM, hF⟩ := h.mem
  have hok := h.ok
  have hr := hok.refs
  have hac := hok.acts
  have hfl := hok.floor
  have hal : (s.acts.drop s.floor).length = s.acts.length - s.floor := List.length_drop
  refine (settle_raw (fv := .pointer (some ⟨m.fp, 0, none⟩)) (aA := m.aA) (na := (s.acts.drop s.floor).length) (ac := m.ac) (fl := s.floor) hM.hd hM.cn hM.la hM.geP hBw hok.last hok.len.2 (fun c hc => by have := hok.cnt c hc; omega) (by omega) (by omega)).mono ?_
  rintro e w' ⟨fp, fA, fc, rfl, h1, h2, h3, h4⟩
  refine ⟨⟨m.p, m.cA, m.cc, m.lA, m.lc, fp, fA, fc, none, 0, []⟩, rfl, ⟨hok.settle, ?_⟩, rfl, ?_, ?_⟩
  · show PoolC B w' _ s.refs s.cnt (lastOf s.cnt) (s.acts.drop s.acts.length) (s.acts.length : Int)
    rw [List.drop_length]
    rw [show (s.floor : Int) + ((s.acts.drop s.floor).length : Int) = (s.acts.length : Int) by omega] at h2
    exact h2
  · exact ⟨h4.os, h4.tape, h4.output, h4.size, fun q o ho hn => h4.block q o ho (fun e => hn (e.elim (fun e => .inl e) (fun e => .inr (.inr (.inl e)))))⟩
  · rintro q (hq | hq | hq | hq | hq | hq | ⟨b, hb, _⟩)
    · exact .inl (.inl hq)
    · exact .inl (.inr (.inl hq))
    · exact .inl (.inr (.inr (.inl hq)))
    · exact .inr (by rw [hq]; exact h1)
    · exact .inr (h3 q hq)
    · cases hq
    · cases hb
set_option maxRecDepth 100000 in
theorem iclone_any {w : World} {A : Option Addr} {c : Nat} {l : List Int} (hr : NLi w A c l) (hl : l.length ≤ 1000000) (h0 : A = none → l = [] ∧ c = 0) :
    Calls Try.prog 37 #[.slice A l.length c] w fun e w' => ∃ A' c', e = .returned (.slice A' l.length c') ∧ RowI w.heap.size w' A' c' l ∧ Ext w w' := by
  obtain ⟨i0, hi, hz0, hz1, hz2⟩ := info_split infoI
  have hsn : ∀ (a : Option Addr) (l c : Nat) (w : World), (binOp .eql 22 (.slice a l c) (.slice none 0 0)).run Try.prog w = .ok (.bool a.isNone) w := fun a l c w => by
    simp only [binOp]
    simp [run_equal_slice_nil w 22 3 a l c Try.underlying22]
  go_enter Try.func37, Try.ntmps37
  cases A with
  | none =>
    obtain ⟨rfl, rfl⟩ := h0 rfl
    go_wp2
    go_ret
    exact ⟨none, 0, rfl, World.ownsRow_nil _ _ _ _, Below.refl _ _⟩
  | some a =>
    obtain ⟨ad, had⟩ : ∃ ad : Addr, a = ad ∧ ∀ (j : Nat) u, (ic l)[j]? = some u → w.cell? (ad.add j) = some u := by
      by_cases hn : 0 < l.length
      · obtain ⟨b, off, e, hc⟩ := hr.rd hn
        injection e with e
        refine ⟨⟨b, off, none⟩, e, fun j u hj => ?_⟩
        simp only [ic, List.getElem?_map, Option.map_eq_some_iff] at hj
        obtain ⟨z, hz, rfl⟩ := hj
        have := hc j z hz
        rwa [show (⟨b, off, none⟩ : Addr).add j = ⟨b, off + j, none⟩ by unfold Addr.add; split <;> simp_all]
      · refine ⟨a, rfl, fun j u hj => ?_⟩
        have hln : l = [] := List.eq_nil_of_length_eq_zero (by omega)
        rw [hln] at hj
        simp at hj
    obtain ⟨rfl, hc⟩ := had
    have hown := World.ownsRow_lit (base := w.heap.size) (e := 3) (size := 1) w #[] 0 (Nat.le_refl _) (by decide) rfl
    go_wp2_with (at_builtin; refine wpList_append_own _ rfl _ _ 22 rfl w.heap.size 3 i0 _ 1 8 Try.underlying22 hi hz0 hz1 hz2 rfl (by decide) _ 0 _ rfl hown a l.length c (ic l) rfl (by simp [ic]) (fun j u hu => (ext_alloc w _).cell (hc j u hu)) (ic_one _) (by simp [maxLen]; omega) (by omega) (by simp) ?_; intro v' w2 hown2 hg2 _)
    simp only [Nat.zero_add, List.nil_append] at hown2
    obtain ⟨A', c', rfl⟩ := slice_of_own hown2
    have hE := ext_only (ext_alloc w _) (show (w.alloc (Obj.cells #[] 3)).grownBy w2 (some w.heap.size) from hg2) (Nat.le_refl _)
    go_wp2
    go_ret
    exact ⟨A', c', rfl, hown2, hE⟩
theorem RowI.none0 {B : Nat} {w : World} {A : Option Addr} {c : Nat} {l : List Int} (h : RowI B w A c l) : A = none → l = [] ∧ c = 0 := fun e => by
  rcases h.2 with ⟨hv, h0⟩ | ⟨g, cap, cur, hv, hb, hg, hle, _⟩
  · injection hv with h1 h2 h3
    exact ⟨List.length_eq_zero_iff.1 h0, h3⟩
  · injection hv with h1 h2 h3
    rw [e] at h1
    cases h1
theorem counts_any {B N : Nat} {w : World} {m : Pm} {s : Pl} (h : PoolS B N w m s) :
    Calls Try.prog 13 #[.pointer (some ⟨m.p, 0, none⟩)] w fun e w' => ∃ A c, e = .returned (.slice A s.cnt.length c) ∧ RowI w.heap.size w' A c s.cnt ∧ Ext w w' := by
  obtain ⟨L, hM, hF⟩ := h.mem
  have hr := h.ok.refs
  have hlen := h.ok.len
  have c1 : w.cell? ⟨m.p, 1, none⟩ = some (.slice m.cA s.cnt.length m.cc) := hM.c 1
  have hcl := iclone_any (hM.cn.nl (fun z hz => by have := h.ok.cnt z hz; omega)) (by omega) hM.cn.none0
  go_enter Try.func13, Try.ntmps13
  go_wp2_with fail
  refine hcl.mono ?_
  rintro e w2 ⟨A, c, rfl, h1, h2⟩
  go_wp2
  go_ret
  exact ⟨A, c, rfl, h1, h2⟩
def rightB (pages refs : Int) : Bool := decide (1 ≤ pages ∧ pages ≤ 65536 ∧ 2 ≤ refs ∧ refs < 65536)
theorem right_any (pages refs : Int) {w : World} : Calls Try.prog 60 #[.int .i64 pages, .int .i64 refs] w fun e w' => e = .returned (.bool (rightB pages refs)) ∧ w = w' := by
  unfold rightB
  by_cases h1 : 1 ≤ pages <;> by_cases h2 : pages ≤ 65536 <;> by_cases h3 : 2 ≤ refs <;> by_cases h4 : refs < 65536
  all_goals
    go_enter Try.func60, Try.ntmps60
    go_wp2
    go_ret
    refine ⟨?_, rfl⟩
    simp [h1, h2, h3, h4]
end Go.Proofs.Ytaalhicdeibodaa
