/- Layer 3: the contract of tuple.put. No condition but the bounds of the types, and that texts are no longer than 2^40. -/
import Derived.Test.YtbjfgnkjmfcokaaTbyte
import Derived.Test.YtbjfgnkjmfcokaaTcmp
namespace Go.Proofs.Ytbjfgnkjmfcokaa
open Go.RowKit Go.Proofs
set_option linter.unusedVariables false
/-- What a function that puts bytes behind a row answers. -/
def PutIn (B : Nat) (w : World) (bs : List UInt8) (e : Ending) (w' : World) : Prop := ∃ A' c', e = .returned (.slice A' bs.length c') ∧ Own 5 B w' A' c' bs ∧ Exc (U8 B) w w'
theorem u8_box {B k : Nat} {cs : Array Value} {t : TypeId} (ht : t ≠ 5) : ¬ U8 B k (.cells cs t (0, 0)) := by
  rintro ⟨_, cs', h⟩
  injection h with _ h
  exact ht h
/-- A byte's slice, laid for an append. -/
def Byte1 (b : Int) (v : Value) (w : World) : Prop := ∃ h, v = .slice (some ⟨h, 0, none⟩) 1 1 ∧ w.heap[h]? = some (.cells #[.int .u8 b] 5 (0, 0))
/-- A row of the call's own. -/
def RowB (B : Nat) (bs : List UInt8) (v : Value) (w : World) : Prop := ∃ A c, v = .slice A bs.length c ∧ Own 5 B w A c bs
theorem RowB.ext {B : Nat} {bs : List UInt8} {v : Value} {w w' : World} (h : RowB B bs v w) (he : Ext w w') : RowB B bs v w' := by
  obtain ⟨A, c, h1, h2⟩ := h
  exact ⟨A, c, h1, h2.ext he⟩
theorem Byte1.ext {b : Int} {v : Value} {w w' : World} (h : Byte1 b v w) (he : Ext w w') : Byte1 b v w' := by
  obtain ⟨g, h1, h2⟩ := h
  exact ⟨g, h1, he.blk h2⟩
theorem Byte1.news {b : Int} {h : Nat} {w : World} (hb : w.heap[h]? = some (.cells #[.int .u8 b] 5 (0, 0))) : ∀ j u, ([.int .u8 b] : List Value)[j]? = some u → w.cell? ((⟨h, 0, none⟩ : Addr).add j) = some u := fun j u hj => by
  rw [Addr.add_lit, cell_of_row _ _ _ _ _ _ hb, Nat.zero_add]
  simpa using hj
theorem own_pushB {B : Nat} {w w2 : World} {A : Option Addr} {c : Nat} {bs : List UInt8} {v' : Value} {x : Int} (b : UInt8) (h : Own 5 B w A c bs) (hg : w.grownBy w2 (Value.slice A bs.length c).ownBlock)
    (hown : w2.ownsRow B 5 1 v' (bs.length + 1) (cells8 bs ++ [.int .u8 x])) (hx : x = (b.toNat : Int)) : RowB B (bs ++ [b]) v' w2 ∧ Exc (U8 B) w w2 := by
  subst hx
  obtain ⟨A', c', rfl⟩ := slice_of_own hown
  refine ⟨⟨A', c', by simp, ?_⟩, Exc.of_grown hg (fun g o' h1 h2 => h.blk h1 h2)⟩
  unfold Own
  rw [cells8_append, List.length_append]
  exact hown
theorem Own.at_ {B n : Nat} {w : World} {A : Option Addr} {c : Nat} {bs : List UInt8} (h : Own 5 B w A c bs) (hn : n = bs.length) : w.ownsRow B 5 1 (.slice A n c) n (cells8 bs) := by
  subst hn
  exact h
theorem own_pushN {B n : Nat} {w wr w2 : World} {o : Obj} {A : Option Addr} {c : Nat} {bs : List UInt8} {v' : Value} {x : Int} (b : UInt8) (hn : n = bs.length) (hE : Exc (U8 B) w wr) (h : Own 5 B wr A c bs) (hg : (wr.alloc o).grownBy w2 (Value.slice A n c).ownBlock)
    (hown : w2.ownsRow B 5 1 v' (n + 1) (cells8 bs ++ [.int .u8 x])) (hx : x = (b.toNat : Int)) : ∃ A' c', v' = .slice A' (bs ++ [b]).length c' ∧ Own 5 B w2 A' c' (bs ++ [b]) ∧ Exc (U8 B) w w2 := by
  subst hn
  exact own_push b hE h hg hown hx
theorem alloc_two (w : World) (o p : Obj) : ((w.alloc o).alloc p).heap[w.heap.size + 1]? = some p := by
  rw [show w.heap.size + 1 = (w.alloc o).heap.size from (World.size_alloc _ _).symm]
  exact heap_alloc_new _ _
theorem str_index (ty : TypeId) (h : Try.prog.underlying ty = some .string) (t : List UInt8) (w : World) (k : IntKind) (q : Nat) (hq : q < t.length) : (Instr.index ty (.string ⟨t.toArray⟩) (.int k q)).run Try.prog w = .ok (.int .u8 (at8 t q)) w := by
  rw [run_index_string w ty ⟨t.toArray⟩ k q h, dif_pos ⟨by omega, by simpa [ByteArray.size] using hq⟩]
  simp [at8, hq]
  rfl
section
variable {w : World} {B c : Nat} {A : Option Addr} {bs : List UInt8} {k i : Int} {b : Bool} {r e m : Nat} {t : List UInt8}
set_option maxRecDepth 100000 in
set_option maxHeartbeats 400000 in
theorem put_0 (hB : B ≤ w.heap.size) (hO : Own 5 B w A c bs) (hl : bs.length ≤ 1099511627776) :
    Calls Try.prog 46 #[.slice A bs.length c, (Vl.mk 0 b i r e m t).p] w (PutIn B w (bs ++ [1])) := by
  obtain ⟨i0, hi, hz0, hz1, hz2⟩ := info_parts infoU8
  obtain ⟨fin, hfin⟩ : ∃ fin, fin = bs ++ [1] := ⟨_, rfl⟩
  rw [← hfin]
  have HF := Lib.hid hfin
  clear hfin
  go_enter Try.func46, Try.ntmps46
  go_wp2_with (at_builtin; go_loud (refine wpList_append_own _ rfl _ _ 30 rfl B 5 i0 (.int .u8 0) 1 1 Try.underlying30 hi hz0 hz1 hz2 rfl (by decide) _ _ _ rfl (World.ownsRow.alloc (Own.ext hO (ext_alloc w _)) _) ⟨w.heap.size + 1, 0, none⟩ 1 1 [.int .u8 1] rfl rfl (Byte1.news (alloc_two _ _ _)) (by simp [Value.oneCell']) (by simp [maxLen]; omega) (by omega) (by simp; omega) ?_; intro v' w2 hown2 hgrow2 _))
  obtain ⟨A2, c2, rfl, ho2, hE2⟩ := own_push 1 (Exc.of_ext (ext_alloc w _)) (hO.ext (ext_alloc w _)) hgrow2 hown2 rfl
  go_wp2
  go_ret
  exact ⟨A2, c2, by rw [HF.out]; simp, by rw [HF.out]; exact ho2, hE2⟩
set_option maxRecDepth 100000 in
set_option maxHeartbeats 400000 in
theorem put_1t (hB : B ≤ w.heap.size) (hO : Own 5 B w A c bs) (hl : bs.length ≤ 1099511627776) :
    Calls Try.prog 46 #[.slice A bs.length c, (Vl.mk 1 true i r e m t).p] w (PutIn B w (bs ++ [3])) := by
  obtain ⟨i0, hi, hz0, hz1, hz2⟩ := info_parts infoU8
  obtain ⟨fin, hfin⟩ : ∃ fin, fin = bs ++ [3] := ⟨_, rfl⟩
  rw [← hfin]
  have HF := Lib.hid hfin
  clear hfin
  go_enter Try.func46, Try.ntmps46
  go_wp2_with (first | (go_at_call 55; refine truth_any.mono ?_; rintro e w' ⟨rfl, rfl⟩) | (at_builtin; go_loud (refine wpList_append_own _ rfl _ _ 30 rfl B 5 i0 (.int .u8 0) 1 1 Try.underlying30 hi hz0 hz1 hz2 rfl (by decide) _ _ _ rfl (World.ownsRow.alloc (Own.ext hO (ext_alloc w _)) _) ⟨w.heap.size + 1, 0, none⟩ 1 1 [.int .u8 3] rfl rfl (Byte1.news (alloc_two _ _ _)) (by simp [Value.oneCell']) (by simp [maxLen]; omega) (by omega) (by simp; omega) ?_; intro v' w2 hown2 hgrow2 _)))
  obtain ⟨A2, c2, rfl, ho2, hE2⟩ := own_push 3 (Exc.of_ext (ext_alloc w _)) (hO.ext (ext_alloc w _)) hgrow2 hown2 rfl
  go_wp2
  go_ret
  exact ⟨A2, c2, by rw [HF.out]; simp, by rw [HF.out]; exact ho2, hE2⟩
set_option maxRecDepth 100000 in
set_option maxHeartbeats 400000 in
theorem put_1f (hB : B ≤ w.heap.size) (hO : Own 5 B w A c bs) (hl : bs.length ≤ 1099511627776) :
    Calls Try.prog 46 #[.slice A bs.length c, (Vl.mk 1 false i r e m t).p] w (PutIn B w (bs ++ [2])) := by
  obtain ⟨i0, hi, hz0, hz1, hz2⟩ := info_parts infoU8
  obtain ⟨fin, hfin⟩ : ∃ fin, fin = bs ++ [2] := ⟨_, rfl⟩
  rw [← hfin]
  have HF := Lib.hid hfin
  clear hfin
  go_enter Try.func46, Try.ntmps46
  go_wp2_with (first | (go_at_call 55; refine truth_any.mono ?_; rintro e w' ⟨rfl, rfl⟩) | (at_builtin; go_loud (refine wpList_append_own _ rfl _ _ 30 rfl B 5 i0 (.int .u8 0) 1 1 Try.underlying30 hi hz0 hz1 hz2 rfl (by decide) _ _ _ rfl (World.ownsRow.alloc (Own.ext hO (ext_alloc w _)) _) ⟨w.heap.size + 1, 0, none⟩ 1 1 [.int .u8 2] rfl rfl (Byte1.news (alloc_two _ _ _)) (by simp [Value.oneCell']) (by simp [maxLen]; omega) (by omega) (by simp; omega) ?_; intro v' w2 hown2 hgrow2 _)))
  obtain ⟨A2, c2, rfl, ho2, hE2⟩ := own_push 2 (Exc.of_ext (ext_alloc w _)) (hO.ext (ext_alloc w _)) hgrow2 hown2 rfl
  go_wp2
  go_ret
  exact ⟨A2, c2, by rw [HF.out]; simp, by rw [HF.out]; exact ho2, hE2⟩
set_option maxRecDepth 100000 in
set_option maxHeartbeats 400000 in
theorem put_2p {n : Nat} (hB : B ≤ w.heap.size) (hO : Own 5 B w A c bs) (hl : bs.length ≤ 1099511627776) (hn : n < 9223372036854775808) :
    Calls Try.prog 46 #[.slice A bs.length c, (Vl.mk 2 b (n : Int) r e m t).p] w (PutIn B w (bs ++ (b8 (32 + (widthN n : Int)) :: bigB n (widthN n)))) := by
  obtain ⟨i0, hi, hz0, hz1, hz2⟩ := info_parts infoU8
  obtain ⟨fin, hfin⟩ : ∃ fin, fin = bs ++ (b8 (32 + (widthN n : Int)) :: bigB n (widthN n)) := ⟨_, rfl⟩
  rw [← hfin]
  have HF := Lib.hid hfin
  clear hfin
  have hw8 := widthN_8 (x := n) (by omega)
  have hwa := width_any (x := n) (w := w.alloc (Obj.cells #[.int .i64 2, .bool b, .int .i64 (n : Int), .float .f64 r, .complex .f64 e m, str t] 56)) (by omega)
  obtain ⟨d, hd⟩ : ∃ d, widthN n = d := ⟨_, rfl⟩
  rw [hd] at hw8 hwa HF
  clear hd
  have hr1 : IntKind.i64.wrap (32 + (d : Int)) = 32 + (d : Int) := by rw [IntKind.wrap_i64]; omega
  have hr3 : IntKind.u64.wrap (n : Int) = (n : Int) := by rw [IntKind.wrap_u64]; omega
  have hr2 : IntKind.u8.wrap (32 + (d : Int)) = (32 + (d : Int)) % 256 := IntKind.wrap_u8 _
  go_enter Try.func46, Try.ntmps46
  go_wp2_with fail
  refine hwa.mono ?_
  rintro e w' ⟨rfl, rfl⟩
  clear hwa
  go_wp2
  refine wp_cut (fun W => Ext w W ∧ W.heap[w.heap.size]? = some (Obj.cells #[.int .i64 2, .bool b, .int .i64 (n : Int), .float .f64 r, .complex .f64 e m, str t] 56) ∧ Own 5 B W A c bs) ⟨ext_alloc _ _, heap_alloc_new _ _, hO.ext (ext_alloc _ _)⟩ ?_
  rintro w1 ⟨hE1', hb1, h1⟩
  have hE1 : Exc (U8 B) w w1 := Exc.of_ext hE1'
  refine wp_region_rg (Exc (U8 B)) (rel_exc _) (fun W => Own 5 B W A c bs) [0, 1, 2, 3, 6, 7, 8, 9, 4, 5, 10, 11] (fun j => match j with
    | _ => none) (fun j => match j with
    | 4 => some fun _ z w => Byte1 (((32 + (d : Int)) % 256)) z w ∧ Own 5 B w A c bs
    | 5 => some fun _ z w => RowB B (bs ++ [b8 (32 + (d : Int))]) z w
    | 10 => some fun _ z w => RowB B fin z w
    | _ => none) (fun _ => false) (by kernel_rfl) (by kernel_rfl) (fun _ _ h he => h.ext he) (h1) (fun W N hW hF0 hN => ?_)
  have hEW : Exc (U8 B) W W := exc_refl _ _
  have hWB : Exc (U8 B) w W := hE1.trans (Exc.of_ext hW)
  have hbW := hW.blk hb1
  have q2 : ∀ w', Exc (U8 B) W w' → w'.cell? ⟨w.heap.size, 2, none⟩ = some (.int .i64 (n : Int)) := fun w' h => cell_of_row _ _ _ _ _ _ (h.blk hbW (u8_box (by decide)))
  repeat (first | (apply wpR_one; (case ho => (simp only [List.getElem?_toArray, List.getElem?_cons_succ, List.getElem?_cons_zero]; try exact rfl)); (case hw => rfl); (case hl => rfl); (case hsp => rfl); (case he => rfl); (case hv => (intro w' hw'; (try (have hw2 := Ext.trans hEW hw')); (try (have hw3 := Exc.trans hEW hw')); (try (have hw4 := Exk.trans hEW hw')); (try (have hw5 := Mrk.trans hEW hw')); go_simp; exact rfl)); (case hw0 => (first | exact Below.refl _ _ | exact Exc.of_ext (Below.refl _ _) | exact Exk.of_ext (Below.refl _ _) | exact Mrk.of_ext (Below.refl _ _))); simp only [Act.put, List.setIfInBounds_toArray, List.set_cons_succ, List.set_cons_zero]) | (apply wpR_early; (case ho => (simp only [List.getElem?_toArray, List.getElem?_cons_succ, List.getElem?_cons_zero]; try exact rfl)); (case hw => rfl); (case hl => rfl); (case hsp => rfl); (case he => rfl); (case hv => (intro w' hw'; (try have hw2 := Ext.trans hEW hw'); go_simp; exact rfl)); simp only [Act.put, List.setIfInBounds_toArray, List.set_cons_succ, List.set_cons_zero]) | (apply wpR_pass; (case ho => (simp only [List.getElem?_toArray, List.getElem?_cons_succ, List.getElem?_cons_zero]; try exact rfl)); (case hw => rfl); (case hl => rfl); simp only [Act.put, List.setIfInBounds_toArray, List.set_cons_succ, List.set_cons_zero]))
  refine wpR_late (by ((simp only [List.getElem?_toArray, List.getElem?_cons_succ, List.getElem?_cons_zero]; try exact rfl))) _ rfl rfl (fun V v w' w2 ⟨x, y⟩ he => ⟨x.ext he, Own.ext y he⟩) (fun V V' h => rfl) (fun w' hw' hK hF => ?_) (fun v hv => ?_)
  · have hF2 : Own 5 B w' A c bs := hF
    unfold opAt
    go_simp
    exact upAt_value ⟨Exc.of_ext (ext_alloc _ _), ⟨_, rfl, heap_alloc_new _ _⟩, hF2.ext (ext_alloc _ _)⟩
  obtain ⟨gb, rfl⟩ : ∃ g, v = .slice (some ⟨g, 0, none⟩) 1 1 := by
    obtain ⟨_, _, ⟨g, h, _⟩, _⟩ := hv
    exact ⟨g, h⟩
  clear hv
  simp only [Act.put, List.setIfInBounds_toArray, List.set_cons_succ, List.set_cons_zero]
  refine wpR_late (by ((simp only [List.getElem?_toArray, List.getElem?_cons_succ, List.getElem?_cons_zero]; try exact rfl))) _ rfl rfl (fun V v w' w2 h he => RowB.ext h he) (fun V V' h => rfl) (fun w' hw' hK hF => ?_) (fun v hv => ?_)
  · obtain ⟨⟨g3, e3, hb3⟩, hF2⟩ := hF
    injection e3 with e3
    injection e3 with e3
    injection e3 with e3
    subst e3
    have hX := (hWB.trans hw').size
    refine opAt_list rfl #[] (fun Q hQ => ?_)
    refine wpList_append_own _ rfl _ _ 30 rfl B 5 i0 (.int .u8 0) 1 1 Try.underlying30 hi hz0 hz1 hz2 rfl (by decide) _ _ _ rfl hF2 ⟨gb, 0, none⟩ 1 1 [.int .u8 (((32 + (d : Int)) % 256))] rfl rfl (Byte1.news hb3) (by simp [Value.oneCell']) (by simp [maxLen]; omega) (by omega) (by omega) ?_
    intro v' w2 hown2 hgrow2 _
    obtain ⟨k1, k2⟩ := own_pushB (b8 (32 + (d : Int))) hF2 hgrow2 hown2 (b8_toNat _).symm
    exact hQ _ _ ⟨k2, k1⟩
  obtain ⟨Ab, cb, rfl⟩ : ∃ A c, v = .slice A (bs.length + 1) c := by
    obtain ⟨_, _, A, c, h, _⟩ := hv
    exact ⟨A, c, by simpa using h⟩
  clear hv
  simp only [Act.put, List.setIfInBounds_toArray, List.set_cons_succ, List.set_cons_zero]
  refine wpR_late (by ((simp only [List.getElem?_toArray, List.getElem?_cons_succ, List.getElem?_cons_zero]; try exact rfl))) _ rfl rfl (fun V v w' w2 h he => RowB.ext h he) (fun V V' h => rfl) (fun w' hw' hK hF => ?_) (fun v hv => ?_)
  · obtain ⟨A5, c5, e5, hF5⟩ := hF
    injection e5 with e51 e53 e52
    subst e51 e52
    clear e53
    have hX := (hWB.trans hw').size
    have HLN := Lib.hid (show bs.length + 1 = (bs ++ [b8 (32 + (d : Int))]).length by simp)
    unfold opAt; go_simp; refine upAt_enter ?_
    rw [HLN.out]
    refine (high_any (n := d) (x := n) (by omega) hF5 (by simp; omega) hw8 (by omega)).mono ?_
    rintro e w2 ⟨A6, c6, rfl, ho6, hE6⟩
    have HB : bs ++ [b8 (32 + (d : Int))] ++ bigB (n) d = fin := by rw [HF.out]; simp
    rw [HB] at ho6 ⊢
    exact ⟨_, rfl, hE6, A6, c6, rfl, ho6⟩
  obtain ⟨A7, c7, rfl⟩ : ∃ A c, v = .slice A fin.length c := by
    obtain ⟨_, _, A, c, h, _⟩ := hv
    exact ⟨A, c, h⟩
  clear hv
  simp only [Act.put, List.setIfInBounds_toArray, List.set_cons_succ, List.set_cons_zero]
  repeat (first | (apply wpR_one; (case ho => (simp only [List.getElem?_toArray, List.getElem?_cons_succ, List.getElem?_cons_zero]; try exact rfl)); (case hw => rfl); (case hl => rfl); (case hsp => rfl); (case he => rfl); (case hv => (intro w' hw'; (try (have hw2 := Ext.trans hEW hw')); (try (have hw3 := Exc.trans hEW hw')); (try (have hw4 := Exk.trans hEW hw')); (try (have hw5 := Mrk.trans hEW hw')); go_simp; exact rfl)); (case hw0 => (first | exact Below.refl _ _ | exact Exc.of_ext (Below.refl _ _) | exact Exk.of_ext (Below.refl _ _) | exact Mrk.of_ext (Below.refl _ _))); simp only [Act.put, List.setIfInBounds_toArray, List.set_cons_succ, List.set_cons_zero]) | (apply wpR_early; (case ho => (simp only [List.getElem?_toArray, List.getElem?_cons_succ, List.getElem?_cons_zero]; try exact rfl)); (case hw => rfl); (case hl => rfl); (case hsp => rfl); (case he => rfl); (case hv => (intro w' hw'; (try have hw2 := Ext.trans hEW hw'); go_simp; exact rfl)); simp only [Act.put, List.setIfInBounds_toArray, List.set_cons_succ, List.set_cons_zero]) | (apply wpR_pass; (case ho => (simp only [List.getElem?_toArray, List.getElem?_cons_succ, List.getElem?_cons_zero]; try exact rfl)); (case hw => rfl); (case hl => rfl); simp only [Act.put, List.setIfInBounds_toArray, List.set_cons_succ, List.set_cons_zero]))
  apply wpR_nil
  apply hN
  intro w5 hE5 hK hF5
  obtain ⟨A8, c8, e8, ho8⟩ := hF5
  injection e8 with e81 e83 e82
  subst e81 e82
  clear e83
  have hE8 := hWB.trans hE5
  clear hK hN q2
  clear HF
  go_wp2
  go_ret
  exact ⟨_, _, rfl, ho8, hE8⟩
set_option maxRecDepth 100000 in
set_option maxHeartbeats 400000 in
theorem put_2n {n : Nat} (hB : B ≤ w.heap.size) (hO : Own 5 B w A c bs) (hl : bs.length ≤ 1099511627776) (hi0 : i < 0) (hin : -1 - i = (n : Int)) (hn : n < 9223372036854775808) :
    Calls Try.prog 46 #[.slice A bs.length c, (Vl.mk 2 b i r e m t).p] w (PutIn B w (bs ++ (b8 (31 - (widthN n : Int)) :: bigB (18446744073709551615 - n) (widthN n)))) := by
  obtain ⟨i0, hi, hz0, hz1, hz2⟩ := info_parts infoU8
  obtain ⟨fin, hfin⟩ : ∃ fin, fin = bs ++ (b8 (31 - (widthN n : Int)) :: bigB (18446744073709551615 - n) (widthN n)) := ⟨_, rfl⟩
  rw [← hfin]
  have HF := Lib.hid hfin
  clear hfin
  have hw8 := widthN_8 (x := n) (by omega)
  have hwa := width_any (x := n) (w := w.alloc (Obj.cells #[.int .i64 2, .bool b, .int .i64 i, .float .f64 r, .complex .f64 e m, str t] 56)) (by omega)
  obtain ⟨d, hd⟩ : ∃ d, widthN n = d := ⟨_, rfl⟩
  rw [hd] at hw8 hwa HF
  clear hd
  obtain ⟨y, hy⟩ : ∃ y, 18446744073709551615 - n = y := ⟨_, rfl⟩
  have hyi : 18446744073709551615 - (n : Int) = (y : Int) := by omega
  rw [hy] at HF
  clear hy
  have hx0 := u64_not (x := (n : Int)) (by omega) (by omega)
  rw [hyi] at hx0
  have hr1 : IntKind.i64.wrap (31 - (d : Int)) = 31 - (d : Int) := by rw [IntKind.wrap_i64]; omega
  have hr3 : IntKind.u64.wrap (n : Int) = (n : Int) := by rw [IntKind.wrap_u64]; omega
  have hr2 : IntKind.u8.wrap (31 - (d : Int)) = (31 - (d : Int)) % 256 := IntKind.wrap_u8 _
  go_enter Try.func46, Try.ntmps46
  go_wp2_with fail
  refine hwa.mono ?_
  rintro e w' ⟨rfl, rfl⟩
  clear hwa
  go_wp2_with (at_builtin; go_loud (refine wpList_append_own _ rfl _ _ 30 rfl B 5 i0 (.int .u8 0) 1 1 Try.underlying30 hi hz0 hz1 hz2 rfl (by decide) _ _ _ rfl (World.ownsRow.alloc (Own.ext hO (ext_alloc w _)) _) ⟨w.heap.size + 1, 0, none⟩ 1 1 [.int .u8 ((31 - (d : Int)) % 256)] rfl rfl (Byte1.news (alloc_two _ _ _)) (by simp [Value.oneCell']) (by simp [maxLen]; omega) (by omega) (by simp; omega) ?_; intro v' w2 hown2 hgrow2 _))
  obtain ⟨A2, c2, rfl, ho2, hE2⟩ := own_push (b8 (31 - (d : Int))) (Exc.of_ext (ext_alloc w _)) (hO.ext (ext_alloc w _)) hgrow2 hown2 (b8_toNat _).symm
  clear hown2 hgrow2
  have hsz := hE2.size
  go_wp2_with (go_at_call 66; refine (high_any (n := d) (x := y) (by omega) ho2 (by simp; omega) hw8 (by omega)).mono ?_; rw [show bs ++ [b8 (31 - (d : Int))] ++ bigB y d = fin from by rw [HF.out]; simp]; rintro e9 w9 ⟨A9, c9, rfl, ho9, hE9⟩)
  go_ret
  exact ⟨_, _, rfl, ho9, hE2.trans hE9⟩
set_option maxRecDepth 100000 in
set_option maxHeartbeats 400000 in
theorem put_3 (hB : B ≤ w.heap.size) (hO : Own 5 B w A c bs) (hl : bs.length ≤ 1099511627776) (hr : r < 18446744073709551616) :
    Calls Try.prog 46 #[.slice A bs.length c, (Vl.mk 3 b i r e m t).p] w (PutIn B w (bs ++ (48 :: bigB (rankN r) 8))) := by
  obtain ⟨i0, hi, hz0, hz1, hz2⟩ := info_parts infoU8
  obtain ⟨fin, hfin⟩ : ∃ fin, fin = bs ++ (48 :: bigB (rankN r) 8) := ⟨_, rfl⟩
  rw [← hfin]
  have HF := Lib.hid hfin
  clear hfin
  have hq := rankN_bd hr
  go_enter Try.func46, Try.ntmps46
  go_wp2
  refine wp_cut (fun W => Ext w W ∧ W.heap[w.heap.size]? = some (Obj.cells #[.int .i64 3, .bool b, .int .i64 i, .float .f64 r, .complex .f64 e m, str t] 56) ∧ Own 5 B W A c bs) ⟨ext_alloc _ _, heap_alloc_new _ _, hO.ext (ext_alloc _ _)⟩ ?_
  rintro w1 ⟨hE1', hb1, h1⟩
  have hE1 : Exc (U8 B) w w1 := Exc.of_ext hE1'
  refine wp_region_rg (Exc (U8 B)) (rel_exc _) (fun W => Own 5 B W A c bs) [0, 3, 4, 1, 2, 5, 6, 7] (fun j => match j with
    | 5 => some fun _ z _ => z = .int .u64 (rankN r)
    | _ => none) (fun j => match j with
    | 1 => some fun _ z w => Byte1 (48) z w ∧ Own 5 B w A c bs
    | 2 => some fun _ z w => RowB B (bs ++ [48]) z w
    | 6 => some fun _ z w => RowB B fin z w
    | _ => none) (fun _ => false) (by kernel_rfl) (by kernel_rfl) (fun _ _ h he => h.ext he) (h1) (fun W N hW hF0 hN => ?_)
  have hEW : Exc (U8 B) W W := exc_refl _ _
  have hWB : Exc (U8 B) w W := hE1.trans (Exc.of_ext hW)
  have hbW := hW.blk hb1
  have q3 : ∀ w', Exc (U8 B) W w' → w'.cell? ⟨w.heap.size, 3, none⟩ = some (.float .f64 r) := fun w' h => cell_of_row _ _ _ _ _ _ (h.blk hbW (u8_box (by decide)))
  repeat (first | (apply wpR_one; (case ho => (simp only [List.getElem?_toArray, List.getElem?_cons_succ, List.getElem?_cons_zero]; try exact rfl)); (case hw => rfl); (case hl => rfl); (case hsp => rfl); (case he => rfl); (case hv => (intro w' hw'; (try (have hw2 := Ext.trans hEW hw')); (try (have hw3 := Exc.trans hEW hw')); (try (have hw4 := Exk.trans hEW hw')); (try (have hw5 := Mrk.trans hEW hw')); go_simp; exact rfl)); (case hw0 => (first | exact Below.refl _ _ | exact Exc.of_ext (Below.refl _ _) | exact Exk.of_ext (Below.refl _ _) | exact Mrk.of_ext (Below.refl _ _))); simp only [Act.put, List.setIfInBounds_toArray, List.set_cons_succ, List.set_cons_zero]) | (apply wpR_early; (case ho => (simp only [List.getElem?_toArray, List.getElem?_cons_succ, List.getElem?_cons_zero]; try exact rfl)); (case hw => rfl); (case hl => rfl); (case hsp => rfl); (case he => rfl); (case hv => (intro w' hw'; (try have hw2 := Ext.trans hEW hw'); go_simp; exact rfl)); simp only [Act.put, List.setIfInBounds_toArray, List.set_cons_succ, List.set_cons_zero]) | (apply wpR_pass; (case ho => (simp only [List.getElem?_toArray, List.getElem?_cons_succ, List.getElem?_cons_zero]; try exact rfl)); (case hw => rfl); (case hl => rfl); simp only [Act.put, List.setIfInBounds_toArray, List.set_cons_succ, List.set_cons_zero]))
  refine wpR_late (by ((simp only [List.getElem?_toArray, List.getElem?_cons_succ, List.getElem?_cons_zero]; try exact rfl))) _ rfl rfl (fun V v w' w2 ⟨x, y⟩ he => ⟨x.ext he, Own.ext y he⟩) (fun V V' h => rfl) (fun w' hw' hK hF => ?_) (fun v hv => ?_)
  · have hF2 : Own 5 B w' A c bs := hF
    unfold opAt
    go_simp
    exact upAt_value ⟨Exc.of_ext (ext_alloc _ _), ⟨_, rfl, heap_alloc_new _ _⟩, hF2.ext (ext_alloc _ _)⟩
  obtain ⟨gb, rfl⟩ : ∃ g, v = .slice (some ⟨g, 0, none⟩) 1 1 := by
    obtain ⟨_, _, ⟨g, h, _⟩, _⟩ := hv
    exact ⟨g, h⟩
  clear hv
  simp only [Act.put, List.setIfInBounds_toArray, List.set_cons_succ, List.set_cons_zero]
  refine wpR_late (by ((simp only [List.getElem?_toArray, List.getElem?_cons_succ, List.getElem?_cons_zero]; try exact rfl))) _ rfl rfl (fun V v w' w2 h he => RowB.ext h he) (fun V V' h => rfl) (fun w' hw' hK hF => ?_) (fun v hv => ?_)
  · obtain ⟨⟨g3, e3, hb3⟩, hF2⟩ := hF
    injection e3 with e3
    injection e3 with e3
    injection e3 with e3
    subst e3
    have hX := (hWB.trans hw').size
    refine opAt_list rfl #[] (fun Q hQ => ?_)
    refine wpList_append_own _ rfl _ _ 30 rfl B 5 i0 (.int .u8 0) 1 1 Try.underlying30 hi hz0 hz1 hz2 rfl (by decide) _ _ _ rfl hF2 ⟨gb, 0, none⟩ 1 1 [.int .u8 (48)] rfl rfl (Byte1.news hb3) (by simp [Value.oneCell']) (by simp [maxLen]; omega) (by omega) (by omega) ?_
    intro v' w2 hown2 hgrow2 _
    obtain ⟨k1, k2⟩ := own_pushB (48) hF2 hgrow2 hown2 rfl
    exact hQ _ _ ⟨k2, k1⟩
  obtain ⟨Ab, cb, rfl⟩ : ∃ A c, v = .slice A (bs.length + 1) c := by
    obtain ⟨_, _, A, c, h, _⟩ := hv
    exact ⟨A, c, by simpa using h⟩
  clear hv
  simp only [Act.put, List.setIfInBounds_toArray, List.set_cons_succ, List.set_cons_zero]
  refine wpR_new (by ((simp only [List.getElem?_toArray, List.getElem?_cons_succ, List.getElem?_cons_zero]; try exact rfl))) _ rfl rfl rfl (fun V v => Lasts.pure) (fun V V' h => rfl) (fun w' hw' hK => ?_) (fun z hz => ?_)
  · unfold opAt; go_simp; refine upAt_enter ?_
    refine (rank_any hr).mono ?_
    rintro e w2 ⟨rfl, rfl⟩
    exact ⟨_, rfl, Below.refl _ _, rfl⟩
  obtain ⟨_, _, _, rfl⟩ := hz
  simp only [Act.put, List.setIfInBounds_toArray, List.set_cons_succ, List.set_cons_zero]
  refine wpR_late (by ((simp only [List.getElem?_toArray, List.getElem?_cons_succ, List.getElem?_cons_zero]; try exact rfl))) _ rfl rfl (fun V v w' w2 h he => RowB.ext h he) (fun V V' h => rfl) (fun w' hw' hK hF => ?_) (fun v hv => ?_)
  · obtain ⟨A5, c5, e5, hF5⟩ := hF
    injection e5 with e51 e53 e52
    subst e51 e52
    clear e53
    have hX := (hWB.trans hw').size
    have HLN := Lib.hid (show bs.length + 1 = (bs ++ [48]).length by simp)
    unfold opAt; go_simp; refine upAt_enter ?_
    rw [HLN.out]
    refine (high_any (n := 8) (x := rankN r) (by omega) hF5 (by simp; omega) (by omega) hq).mono ?_
    rintro e w2 ⟨A6, c6, rfl, ho6, hE6⟩
    have HB : bs ++ [48] ++ bigB (rankN r) 8 = fin := by rw [HF.out]; simp
    rw [HB] at ho6 ⊢
    exact ⟨_, rfl, hE6, A6, c6, rfl, ho6⟩
  obtain ⟨A7, c7, rfl⟩ : ∃ A c, v = .slice A fin.length c := by
    obtain ⟨_, _, A, c, h, _⟩ := hv
    exact ⟨A, c, h⟩
  clear hv
  simp only [Act.put, List.setIfInBounds_toArray, List.set_cons_succ, List.set_cons_zero]
  repeat (first | (apply wpR_one; (case ho => (simp only [List.getElem?_toArray, List.getElem?_cons_succ, List.getElem?_cons_zero]; try exact rfl)); (case hw => rfl); (case hl => rfl); (case hsp => rfl); (case he => rfl); (case hv => (intro w' hw'; (try (have hw2 := Ext.trans hEW hw')); (try (have hw3 := Exc.trans hEW hw')); (try (have hw4 := Exk.trans hEW hw')); (try (have hw5 := Mrk.trans hEW hw')); go_simp; exact rfl)); (case hw0 => (first | exact Below.refl _ _ | exact Exc.of_ext (Below.refl _ _) | exact Exk.of_ext (Below.refl _ _) | exact Mrk.of_ext (Below.refl _ _))); simp only [Act.put, List.setIfInBounds_toArray, List.set_cons_succ, List.set_cons_zero]) | (apply wpR_early; (case ho => (simp only [List.getElem?_toArray, List.getElem?_cons_succ, List.getElem?_cons_zero]; try exact rfl)); (case hw => rfl); (case hl => rfl); (case hsp => rfl); (case he => rfl); (case hv => (intro w' hw'; (try have hw2 := Ext.trans hEW hw'); go_simp; exact rfl)); simp only [Act.put, List.setIfInBounds_toArray, List.set_cons_succ, List.set_cons_zero]) | (apply wpR_pass; (case ho => (simp only [List.getElem?_toArray, List.getElem?_cons_succ, List.getElem?_cons_zero]; try exact rfl)); (case hw => rfl); (case hl => rfl); simp only [Act.put, List.setIfInBounds_toArray, List.set_cons_succ, List.set_cons_zero]))
  apply wpR_nil
  apply hN
  intro w5 hE5 hK hF5
  obtain ⟨A8, c8, e8, ho8⟩ := hF5
  injection e8 with e81 e83 e82
  subst e81 e82
  clear e83
  have hE8 := hWB.trans hE5
  clear hK hN q3
  clear HF
  go_wp2
  go_ret
  exact ⟨_, _, rfl, ho8, hE8⟩
set_option maxRecDepth 100000 in
set_option maxHeartbeats 400000 in
theorem put_4 (hB : B ≤ w.heap.size) (hO : Own 5 B w A c bs) (hl : bs.length ≤ 1099511627776) (hr : e < 18446744073709551616) (hm : m < 18446744073709551616) :
    Calls Try.prog 46 #[.slice A bs.length c, (Vl.mk 4 b i r e m t).p] w (PutIn B w (bs ++ (56 :: bigB (rankN e) 8 ++ bigB (rankN m) 8))) := by
  obtain ⟨i0, hi, hz0, hz1, hz2⟩ := info_parts infoU8
  obtain ⟨fin, hfin⟩ : ∃ fin, fin = bs ++ (56 :: bigB (rankN e) 8 ++ bigB (rankN m) 8) := ⟨_, rfl⟩
  rw [← hfin]
  have HF := Lib.hid hfin
  clear hfin
  have hq := rankN_bd hr
  have hq2 := rankN_bd hm
  obtain ⟨mid, hmid⟩ : ∃ mid, mid = bs ++ (56 :: bigB (rankN e) 8) := ⟨_, rfl⟩
  have HM := Lib.hid hmid
  have hml : mid.length ≤ 1099511627776 + 9 := by rw [hmid]; simp [length_bigB]; omega
  have HF2 : Hid (mid ++ bigB (rankN m) 8 = fin) := Lib.hid (by rw [HF.out, hmid]; simp)
  clear hmid
  go_enter Try.func46, Try.ntmps46
  go_wp2
  refine wp_cut (fun W => Ext w W ∧ W.heap[w.heap.size]? = some (Obj.cells #[.int .i64 4, .bool b, .int .i64 i, .float .f64 r, .complex .f64 e m, str t] 56) ∧ Own 5 B W A c bs) ⟨ext_alloc _ _, heap_alloc_new _ _, hO.ext (ext_alloc _ _)⟩ ?_
  rintro w1 ⟨hE1', hb1, h1⟩
  have hE1 : Exc (U8 B) w w1 := Exc.of_ext hE1'
  refine wp_region_rg (Exc (U8 B)) (rel_exc _) (fun W => Own 5 B W A c bs) [0, 3, 4, 5, 1, 2, 6, 7, 8] (fun j => match j with
    | 6 => some fun _ z _ => z = .int .u64 (rankN e)
    | _ => none) (fun j => match j with
    | 1 => some fun _ z w => Byte1 (56) z w ∧ Own 5 B w A c bs
    | 2 => some fun _ z w => RowB B (bs ++ [56]) z w
    | 7 => some fun _ z w => RowB B mid z w
    | _ => none) (fun _ => false) (by kernel_rfl) (by kernel_rfl) (fun _ _ h he => h.ext he) (h1) (fun W N hW hF0 hN => ?_)
  have hEW : Exc (U8 B) W W := exc_refl _ _
  have hWB : Exc (U8 B) w W := hE1.trans (Exc.of_ext hW)
  have hbW := hW.blk hb1
  have q4 : ∀ w', Exc (U8 B) W w' → w'.cell? ⟨w.heap.size, 4, none⟩ = some (.complex .f64 e m) := fun w' h => cell_of_row _ _ _ _ _ _ (h.blk hbW (u8_box (by decide)))
  repeat (first | (apply wpR_one; (case ho => (simp only [List.getElem?_toArray, List.getElem?_cons_succ, List.getElem?_cons_zero]; try exact rfl)); (case hw => rfl); (case hl => rfl); (case hsp => rfl); (case he => rfl); (case hv => (intro w' hw'; (try (have hw2 := Ext.trans hEW hw')); (try (have hw3 := Exc.trans hEW hw')); (try (have hw4 := Exk.trans hEW hw')); (try (have hw5 := Mrk.trans hEW hw')); go_simp; exact rfl)); (case hw0 => (first | exact Below.refl _ _ | exact Exc.of_ext (Below.refl _ _) | exact Exk.of_ext (Below.refl _ _) | exact Mrk.of_ext (Below.refl _ _))); simp only [Act.put, List.setIfInBounds_toArray, List.set_cons_succ, List.set_cons_zero]) | (apply wpR_early; (case ho => (simp only [List.getElem?_toArray, List.getElem?_cons_succ, List.getElem?_cons_zero]; try exact rfl)); (case hw => rfl); (case hl => rfl); (case hsp => rfl); (case he => rfl); (case hv => (intro w' hw'; (try have hw2 := Ext.trans hEW hw'); go_simp; exact rfl)); simp only [Act.put, List.setIfInBounds_toArray, List.set_cons_succ, List.set_cons_zero]) | (apply wpR_pass; (case ho => (simp only [List.getElem?_toArray, List.getElem?_cons_succ, List.getElem?_cons_zero]; try exact rfl)); (case hw => rfl); (case hl => rfl); simp only [Act.put, List.setIfInBounds_toArray, List.set_cons_succ, List.set_cons_zero]))
  refine wpR_late (by ((simp only [List.getElem?_toArray, List.getElem?_cons_succ, List.getElem?_cons_zero]; try exact rfl))) _ rfl rfl (fun V v w' w2 ⟨x, y⟩ he => ⟨x.ext he, Own.ext y he⟩) (fun V V' h => rfl) (fun w' hw' hK hF => ?_) (fun v hv => ?_)
  · have hF2 : Own 5 B w' A c bs := hF
    unfold opAt
    go_simp
    exact upAt_value ⟨Exc.of_ext (ext_alloc _ _), ⟨_, rfl, heap_alloc_new _ _⟩, hF2.ext (ext_alloc _ _)⟩
  obtain ⟨gb, rfl⟩ : ∃ g, v = .slice (some ⟨g, 0, none⟩) 1 1 := by
    obtain ⟨_, _, ⟨g, h, _⟩, _⟩ := hv
    exact ⟨g, h⟩
  clear hv
  simp only [Act.put, List.setIfInBounds_toArray, List.set_cons_succ, List.set_cons_zero]
  refine wpR_late (by ((simp only [List.getElem?_toArray, List.getElem?_cons_succ, List.getElem?_cons_zero]; try exact rfl))) _ rfl rfl (fun V v w' w2 h he => RowB.ext h he) (fun V V' h => rfl) (fun w' hw' hK hF => ?_) (fun v hv => ?_)
  · obtain ⟨⟨g3, e3, hb3⟩, hF2⟩ := hF
    injection e3 with e3
    injection e3 with e3
    injection e3 with e3
    subst e3
    have hX := (hWB.trans hw').size
    refine opAt_list rfl #[] (fun Q hQ => ?_)
    refine wpList_append_own _ rfl _ _ 30 rfl B 5 i0 (.int .u8 0) 1 1 Try.underlying30 hi hz0 hz1 hz2 rfl (by decide) _ _ _ rfl hF2 ⟨gb, 0, none⟩ 1 1 [.int .u8 (56)] rfl rfl (Byte1.news hb3) (by simp [Value.oneCell']) (by simp [maxLen]; omega) (by omega) (by omega) ?_
    intro v' w2 hown2 hgrow2 _
    obtain ⟨k1, k2⟩ := own_pushB (56) hF2 hgrow2 hown2 rfl
    exact hQ _ _ ⟨k2, k1⟩
  obtain ⟨Ab, cb, rfl⟩ : ∃ A c, v = .slice A (bs.length + 1) c := by
    obtain ⟨_, _, A, c, h, _⟩ := hv
    exact ⟨A, c, by simpa using h⟩
  clear hv
  simp only [Act.put, List.setIfInBounds_toArray, List.set_cons_succ, List.set_cons_zero]
  refine wpR_new (by ((simp only [List.getElem?_toArray, List.getElem?_cons_succ, List.getElem?_cons_zero]; try exact rfl))) _ rfl rfl rfl (fun V v => Lasts.pure) (fun V V' h => rfl) (fun w' hw' hK => ?_) (fun z hz => ?_)
  · unfold opAt; go_simp; refine upAt_enter ?_
    refine (rank_any hr).mono ?_
    rintro e w2 ⟨rfl, rfl⟩
    exact ⟨_, rfl, Below.refl _ _, rfl⟩
  obtain ⟨_, _, _, rfl⟩ := hz
  simp only [Act.put, List.setIfInBounds_toArray, List.set_cons_succ, List.set_cons_zero]
  refine wpR_late (by ((simp only [List.getElem?_toArray, List.getElem?_cons_succ, List.getElem?_cons_zero]; try exact rfl))) _ rfl rfl (fun V v w' w2 h he => RowB.ext h he) (fun V V' h => rfl) (fun w' hw' hK hF => ?_) (fun v hv => ?_)
  · obtain ⟨A5, c5, e5, hF5⟩ := hF
    injection e5 with e51 e53 e52
    subst e51 e52
    clear e53
    have hX := (hWB.trans hw').size
    have HLN := Lib.hid (show bs.length + 1 = (bs ++ [56]).length by simp)
    unfold opAt; go_simp; refine upAt_enter ?_
    rw [HLN.out]
    refine (high_any (n := 8) (x := rankN e) (by omega) hF5 (by simp; omega) (by omega) hq).mono ?_
    rintro e w2 ⟨A6, c6, rfl, ho6, hE6⟩
    have HB : bs ++ [56] ++ bigB (rankN e) 8 = mid := by rw [HM.out]; simp
    rw [HB] at ho6 ⊢
    exact ⟨_, rfl, hE6, A6, c6, rfl, ho6⟩
  obtain ⟨A7, c7, rfl⟩ : ∃ A c, v = .slice A mid.length c := by
    obtain ⟨_, _, A, c, h, _⟩ := hv
    exact ⟨A, c, h⟩
  clear hv
  simp only [Act.put, List.setIfInBounds_toArray, List.set_cons_succ, List.set_cons_zero]
  repeat (first | (apply wpR_one; (case ho => (simp only [List.getElem?_toArray, List.getElem?_cons_succ, List.getElem?_cons_zero]; try exact rfl)); (case hw => rfl); (case hl => rfl); (case hsp => rfl); (case he => rfl); (case hv => (intro w' hw'; (try (have hw2 := Ext.trans hEW hw')); (try (have hw3 := Exc.trans hEW hw')); (try (have hw4 := Exk.trans hEW hw')); (try (have hw5 := Mrk.trans hEW hw')); go_simp; exact rfl)); (case hw0 => (first | exact Below.refl _ _ | exact Exc.of_ext (Below.refl _ _) | exact Exk.of_ext (Below.refl _ _) | exact Mrk.of_ext (Below.refl _ _))); simp only [Act.put, List.setIfInBounds_toArray, List.set_cons_succ, List.set_cons_zero]) | (apply wpR_early; (case ho => (simp only [List.getElem?_toArray, List.getElem?_cons_succ, List.getElem?_cons_zero]; try exact rfl)); (case hw => rfl); (case hl => rfl); (case hsp => rfl); (case he => rfl); (case hv => (intro w' hw'; (try have hw2 := Ext.trans hEW hw'); go_simp; exact rfl)); simp only [Act.put, List.setIfInBounds_toArray, List.set_cons_succ, List.set_cons_zero]) | (apply wpR_pass; (case ho => (simp only [List.getElem?_toArray, List.getElem?_cons_succ, List.getElem?_cons_zero]; try exact rfl)); (case hw => rfl); (case hl => rfl); simp only [Act.put, List.setIfInBounds_toArray, List.set_cons_succ, List.set_cons_zero]))
  apply wpR_nil
  apply hN
  intro w5 hE5 hK hF5
  obtain ⟨A8, c8, e8, ho8⟩ := hF5
  injection e8 with e81 e83 e82
  subst e81 e82
  clear e83
  have hE8 := hWB.trans hE5
  clear hK hN q4
  have hb5 := hE5.blk hbW (u8_box (by decide))
  have c4 := cell_of_row w5 w.heap.size 4 _ _ _ hb5
  simp only [List.getElem?_toArray, List.getElem?_cons_zero, List.getElem?_cons_succ] at c4
  have hsz := hE8.size
  clear HF HM
  go_wp2_with (first | (go_at_call 58; refine (rank_any hm).mono ?_; rintro e9 w9 ⟨rfl, rfl⟩) | (go_at_call 66; refine (high_any (n := 8) (x := rankN m) (by omega) ho8 (by omega) (by omega) hq2).mono ?_; rw [HF2.out]; rintro e9 w9 ⟨A9, c9, rfl, ho9, hE9⟩))
  go_ret
  exact ⟨_, _, rfl, ho9, hE8.trans hE9⟩
end
end Go.Proofs.Ytbjfgnkjmfcokaa
