/- Contracts of coppiceref07: IsPage, form, key, value, child. No condition but that what comes in lies in memory. -/
import Derived.Test.YtjjbckdiojleeaaNlaws
import Derived.Test.YtjjbckdiojleeaaNfinds
namespace Go.Proofs.Ytjjbckdiojleeaa
set_option linter.unusedVariables false
open Go.RowKit Go.Proofs
theorem isPage_any {n : Int} {w : World} :
    Calls Try.prog 69 #[.int .i64 n] w fun e w' => e = .returned (.bool (isPageB n)) ∧ Ext w w' := by
  have HQ := Lib.hid (show isPageB n = (decide (1 ≤ n) && decide (n ≤ 65536)) from rfl)
  by_cases h1 : 1 ≤ n
  all_goals
    have H1 := Lib.hid h1
    go_enter Try.func69, Try.ntmps69
    go_wp2
    go_ret
    exact ⟨ret_bool (by rw [HQ.out]; have h2 := H1.out; simp [h2]; try omega), Below.refl _ _⟩
theorem close_and {a b c d : Bool} (h1 : a = b) (h2 : c = d) : (a && c) = (b && d) := by rw [h1, h2]
set_option maxHeartbeats 1000000 in
theorem form_any {v : Value} {p : Pg} {w : World} (hv : PgV w v p) :
    Calls Try.prog 65 #[v] w fun e w' => e = .returned (.bool (chFormB p)) ∧ Ext w w' := by
  obtain ⟨iA, ic, dA, dc, rfl, hi, hd⟩ := hv.ex
  clear hv hi hd
  by_cases h3 : p.kind = 3
  · have HQ := Lib.hid (show chFormB p = (decide (p.level = 0) && (decide (p.items.length = 0) && (decide (1 ≤ p.data.length) && decide (p.data.length ≤ 480)))) by unfold chFormB; rw [if_pos h3])
    have c3 : (p.kind == 3) = true := by simpa using h3
    clear h3
    go_enter Try.func65, Try.ntmps65
    go_wp2
    all_goals (go_ret; refine ⟨ret_bool ?_, ext_alloc _ _⟩; rw [HQ.out, Bool.eq_iff_iff]; (try simp only [← List.length_eq_zero_iff, beq_iff_eq] at *); (try simp only [Bool.and_eq_true, decide_eq_true_eq, Bool.false_eq_true, false_iff]); all_goals omega)
  have c3 : (p.kind == 3) = false := by simpa using h3
  by_cases h1 : p.kind = 1
  · have HQ := Lib.hid (show chFormB p = (decide (p.data.length = 0) && (decide (p.next = 0) && (decide (p.items.length ≤ 8) && (decide (p.level = 0) && decide (1 ≤ p.items.length))))) by
      unfold chFormB; rw [if_neg h3, if_pos h1]
      split
      · rename_i h
        rw [eq_comm, Bool.eq_false_iff]
        intro h5
        simp only [Bool.and_eq_true, decide_eq_true_eq] at h5
        omega
      · rename_i h
        rw [Bool.eq_iff_iff]
        simp only [Bool.and_eq_true, decide_eq_true_eq]
        omega)
    have c1 : (p.kind == 1) = true := by simpa using h1
    clear h3 h1
    rcases Nat.eq_zero_or_pos p.data.length with hd0 | hd0
    · have hd1 := List.length_eq_zero_iff.1 hd0
      clear hd0
      go_enter Try.func65, Try.ntmps65
      go_wp2
      all_goals (go_ret; refine ⟨ret_bool ?_, ext_alloc _ _⟩; rw [HQ.out, Bool.eq_iff_iff]; (try simp only [← List.length_eq_zero_iff, beq_iff_eq, ne_eq, beq_eq_false_iff_ne] at *); (try simp only [Bool.and_eq_true, decide_eq_true_eq, Bool.false_eq_true, false_iff]); all_goals omega)
    · have hd1 : ¬ p.data = [] := fun h => by rw [h] at hd0; simp at hd0
      go_enter Try.func65, Try.ntmps65
      go_wp2
      all_goals (go_ret; refine ⟨ret_bool ?_, ext_alloc _ _⟩; rw [HQ.out, Bool.eq_iff_iff]; (try simp only [← List.length_eq_zero_iff, beq_iff_eq, ne_eq, beq_eq_false_iff_ne] at *); (try simp only [Bool.and_eq_true, decide_eq_true_eq, Bool.false_eq_true, false_iff]); all_goals omega)
  · have HQ := Lib.hid (show chFormB p = (decide (p.data.length = 0) && (decide (p.next = 0) && (decide (p.items.length ≤ 8) && (decide (1 ≤ p.level) && (decide (p.level ≤ 11) && decide (2 ≤ p.items.length)))))) by
      unfold chFormB; rw [if_neg h3, if_neg h1]
      split
      · rename_i h
        rw [eq_comm, Bool.eq_false_iff]
        intro h5
        simp only [Bool.and_eq_true, decide_eq_true_eq] at h5
        omega
      · rename_i h
        rw [Bool.eq_iff_iff]
        simp only [Bool.and_eq_true, decide_eq_true_eq]
        omega)
    have c1 : (p.kind == 1) = false := by simpa using h1
    clear h3 h1
    rcases Nat.eq_zero_or_pos p.data.length with hd0 | hd0
    · have hd1 := List.length_eq_zero_iff.1 hd0
      clear hd0
      go_enter Try.func65, Try.ntmps65
      go_wp2
      all_goals (go_ret; refine ⟨ret_bool ?_, ext_alloc _ _⟩; rw [HQ.out, Bool.eq_iff_iff]; (try simp only [← List.length_eq_zero_iff, ne_eq, beq_eq_false_iff_ne] at *); (try simp only [Bool.and_eq_true, decide_eq_true_eq, Bool.false_eq_true, false_iff]); all_goals omega)
    · have hd1 : ¬ p.data = [] := fun h => by rw [h] at hd0; simp at hd0
      go_enter Try.func65, Try.ntmps65
      go_wp2
      all_goals (go_ret; refine ⟨ret_bool ?_, ext_alloc _ _⟩; rw [HQ.out, Bool.eq_iff_iff]; (try simp only [← List.length_eq_zero_iff, ne_eq, beq_eq_false_iff_ne] at *); (try simp only [Bool.and_eq_true, decide_eq_true_eq, Bool.false_eq_true, false_iff]); all_goals omega)
set_option maxHeartbeats 1000000 in
theorem chKey_any {v : Value} {p : Pg} {i : Nat} {x : It} {w : World} (hv : PgV w v p) (hx : p.items[i]? = some x) :
    Calls Try.prog 66 #[v, .int .i64 (i : Nat)] w fun e w' => e = .returned (.bool (chKeyB p.kind i x)) ∧ Ext w w' := by
  obtain ⟨iA, ic, dA, dc, rfl, hi, hd⟩ := hv.ex
  have hil := hi.len
  have hlt := (List.getElem?_eq_some_iff.1 hx).1
  obtain ⟨b, o, rfl, hcx⟩ := hi.rd (by omega)
  obtain ⟨kA, kc, vA, vc, x0, x1, x2, x3, xk, xv⟩ := (hcx _ x hx).ext (ext_alloc w (.cells #[.int .i64 p.kind, .int .i64 p.level, .slice (some ⟨b, o, none⟩) p.items.length ic, .slice dA p.data.length dc, .int .i64 p.next] 26))
  have i1 : (i : Int) < p.items.length := by omega
  have hk := xk.len
  clear hv hi hd hcx hx x1 x2 x3 xv xk
  by_cases h2 : p.kind = 2 ∧ i = 0
  · have HQ := Lib.hid (show chKeyB p.kind i x = decide (x.key.length = 0) by unfold chKeyB; rw [if_pos h2])
    have c1 : (p.kind == 2) = true := by simpa using h2.1
    have c2 : ((i : Int) == 0) = true := by simp [h2.2]
    clear h2
    go_enter Try.func66, Try.ntmps66
    go_wp2
    all_goals (go_ret; refine ⟨ret_bool ?_, ext_alloc _ _⟩; rw [HQ.out, Bool.eq_iff_iff]; (try simp only [beq_iff_eq] at *); (try simp only [decide_eq_true_eq]); all_goals omega)
  · have HQ := Lib.hid (show chKeyB p.kind i x = (decide (1 ≤ x.key.length) && decide (x.key.length ≤ 24)) by unfold chKeyB; rw [if_neg h2]; rfl)
    have hcs : (p.kind == 2) = false ∨ ((p.kind == 2) = true ∧ ((i : Int) == 0) = false) := by
      by_cases h : p.kind = 2
      · exact .inr ⟨by simpa using h, by simpa using fun h' => h2 ⟨h, h'⟩⟩
      · exact .inl (by simpa using h)
    clear h2
    rcases hcs with c1 | ⟨c1, c2⟩
    all_goals
      go_enter Try.func66, Try.ntmps66
      go_wp2
      all_goals (go_ret; refine ⟨ret_bool ?_, ext_alloc _ _⟩; rw [HQ.out, Bool.eq_iff_iff]; (try simp only [beq_iff_eq, ne_eq, beq_eq_false_iff_ne] at *); (try simp only [Bool.and_eq_true, decide_eq_true_eq, Bool.false_eq_true, false_iff]); all_goals omega)
set_option maxHeartbeats 1000000 in
theorem chVal_any {v u : Value} {p : Pg} {x : It} {w : World} (hv : PgV w v p) (hu : ItV w u x) :
    Calls Try.prog 67 #[v, u] w fun e w' => e = .returned (.bool (chValB p.kind x)) ∧ Ext w w' := by
  obtain ⟨iA, ic, dA, dc, rfl, hi, hd⟩ := hv.ex
  obtain ⟨kA, kc, vA, vc, rfl, xk, xv⟩ := hu.ex
  have hvl := xv.len
  clear hv hi hd hu xk xv
  by_cases h2 : p.kind = 2
  · have HQ := Lib.hid (show chValB p.kind x = (decide (x.val.length = 0) && decide (x.sz = 0)) by unfold chValB; rw [if_pos h2])
    have c1 : (p.kind == 2) = true := by simpa using h2
    clear h2
    go_enter Try.func67, Try.ntmps67
    go_wp2
    all_goals (go_ret; refine ⟨ret_bool ?_, (ext_alloc _ _).trans (ext_alloc _ _)⟩; rw [HQ.out, Bool.eq_iff_iff]; (try simp only [← List.length_eq_zero_iff, beq_iff_eq] at *); (try simp only [Bool.and_eq_true, decide_eq_true_eq, Bool.false_eq_true, false_iff]); all_goals omega)
  have c1 : (p.kind == 2) = false := by simpa using h2
  by_cases h3 : x.sz < 0 ∨ 3840 < x.sz
  · have HQ := Lib.hid (show chValB p.kind x = false by unfold chValB; rw [if_neg h2, if_pos h3])
    clear h2
    have hcs : x.sz < 0 ∨ (0 ≤ x.sz ∧ 3840 < x.sz) := by omega
    clear h3
    rcases hcs with h4 | ⟨h4, h5⟩
    all_goals
      go_enter Try.func67, Try.ntmps67
      go_wp2
      all_goals (go_ret; refine ⟨ret_bool ?_, (ext_alloc _ _).trans (ext_alloc _ _)⟩; rw [HQ.out, Bool.eq_iff_iff]; (try simp only [← List.length_eq_zero_iff, beq_iff_eq, bne_iff_ne, ne_eq, beq_eq_false_iff_ne, bne_eq_false_iff_eq] at *); (try simp only [Bool.and_eq_true, decide_eq_true_eq, beq_iff_eq, Bool.false_eq_true, true_iff, false_iff, iff_true, iff_false, eq_self_iff_true]); all_goals omega)
  obtain ⟨h4, h5⟩ : 0 ≤ x.sz ∧ x.sz ≤ 3840 := by omega
  by_cases h6 : x.sz ≤ 32
  · have HQ := Lib.hid (show chValB p.kind x = decide ((x.val.length : Int) = x.sz) by unfold chValB; rw [if_neg h2, if_neg h3, if_pos h6])
    clear h2 h3
    go_enter Try.func67, Try.ntmps67
    go_wp2
    all_goals (go_ret; refine ⟨ret_bool ?_, (ext_alloc _ _).trans (ext_alloc _ _)⟩; rw [HQ.out, Bool.eq_iff_iff]; (try simp only [beq_iff_eq, ne_eq, beq_eq_false_iff_ne] at *); (try simp only [decide_eq_true_eq]); all_goals omega)
  · have HQ := Lib.hid (show chValB p.kind x = decide (x.val.length = 0) by unfold chValB; rw [if_neg h2, if_neg h3, if_neg h6])
    clear h2 h3
    have h7 : 32 < x.sz := by omega
    clear h6
    go_enter Try.func67, Try.ntmps67
    go_wp2
    all_goals (go_ret; refine ⟨ret_bool ?_, (ext_alloc _ _).trans (ext_alloc _ _)⟩; rw [HQ.out, Bool.eq_iff_iff]; (try simp only [beq_iff_eq, ne_eq, beq_eq_false_iff_ne] at *); (try simp only [decide_eq_true_eq]); all_goals omega)
set_option maxHeartbeats 1000000 in
theorem chCh_any {v u : Value} {p : Pg} {x : It} {w : World} (hv : PgV w v p) (hu : ItV w u x) :
    Calls Try.prog 68 #[v, u] w fun e w' => e = .returned (.bool (chChB p.kind x)) ∧ Ext w w' := by
  obtain ⟨iA, ic, dA, dc, rfl, hi, hd⟩ := hv.ex
  obtain ⟨kA, kc, vA, vc, rfl, xk, xv⟩ := hu.ex
  clear hv hi hd hu xk xv
  by_cases h2 : p.kind = 1 ∧ x.sz ≤ 32
  · have HQ := Lib.hid (show chChB p.kind x = decide (x.ch = 0) by unfold chChB; rw [if_pos h2])
    have c1 : (p.kind == 1) = true := by simpa using h2.1
    have c2 : x.sz ≤ 32 := h2.2
    clear h2
    go_enter Try.func68, Try.ntmps68
    go_wp2
    all_goals (go_ret; refine ⟨ret_bool ?_, (ext_alloc _ _).trans (ext_alloc _ _)⟩; rw [HQ.out, Bool.eq_iff_iff]; (try simp only [beq_iff_eq] at *); (try simp only [decide_eq_true_eq]); all_goals omega)
  have HQ := Lib.hid (show chChB p.kind x = isPageB x.ch by unfold chChB; rw [if_neg h2])
  have hcs : (p.kind == 1) = false ∨ ((p.kind == 1) = true ∧ 32 < x.sz) := by
    by_cases h : p.kind = 1
    · exact .inr ⟨by simpa using h, by omega⟩
    · exact .inl (by simpa using h)
  clear h2
  rcases hcs with c1 | ⟨c1, c2⟩
  all_goals
    go_enter Try.func68, Try.ntmps68
    go_wp2_with fail
    refine isPage_any.mono ?_
    rintro e w1 ⟨rfl, hE1⟩
    have hE := ((ext_alloc _ _).trans (ext_alloc _ _)).trans hE1
    go_wp2
    go_ret
    exact ⟨ret_bool (by rw [HQ.out]), hE⟩
end Go.Proofs.Ytjjbckdiojleeaa
