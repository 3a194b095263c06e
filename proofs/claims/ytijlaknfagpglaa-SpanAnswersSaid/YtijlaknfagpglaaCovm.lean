/- Cover: the rows and lists that it reads and makes. No condition but sizes. -/
import Derived.Test.YtijlaknfagpglaaCovl
import Derived.Test.YtijlaknfagpglaaSts
import Derived.Test.YtijlaknfagpglaaSpani
import Derived.Test.YtijlaknfagpglaaOwnb
namespace Go.Proofs.Ytijlaknfagpglaa
open Go.RowKit Go.Proofs Go.Sort
set_option linter.unusedVariables false
set_option linter.unusedSimpArgs false
abbrev rg (f : Fr) : Rg := ⟨f.lo, f.hi, f.op⟩
/-- The blocks of a range's lists. -/
def bl (f : Fr) : List Nat := (Value.slice f.lA f.lo.length f.lc).ownBlock.toList ++ (Value.slice f.hA f.hi.length f.hc).ownBlock.toList
/-- A row of ranges that can be read. -/
structure RowR (w : World) (A : Option Addr) (fs : List Fr) : Prop where
  rd : 0 < fs.length → ∃ g o, A = some ⟨g, o, none⟩ ∧ ∀ (i : Nat) (f : Fr), fs[i]? = some f → Two w g (o + i * 3) f.lA f.lo.length f.lc f.hA f.hi.length f.hc f.op
  ls : ∀ f ∈ fs, Sl w f.lA f.lc f.lo ∧ Sl w f.hA f.hc f.hi
theorem RowR.ext {w w' : World} {A : Option Addr} {fs : List Fr} (h : RowR w A fs) (he : Ext w w') : RowR w' A fs := by
  refine ⟨fun hn => ?_, fun f hf => ⟨(h.ls f hf).1.ext he, (h.ls f hf).2.ext he⟩⟩
  obtain ⟨g, o, hA, h1⟩ := h.rd hn
  exact ⟨g, o, hA, fun i f hf => (h1 i f hf).ext he⟩
/-- Ranges whose lists are a call's own, in blocks apart. -/
structure OwnL (B : Nat) (w : World) (fs : List Fr) : Prop where
  each : ∀ f ∈ fs, Own 5 B w f.lA f.lc f.lo ∧ Own 5 B w f.hA f.hc f.hi
  apart : (fs.flatMap bl).Nodup
  ok : ∀ f ∈ fs, Okf (rg f)
section
variable {B C : Nat} {w w' : World} {fs : List Fr} {f : Fr}
theorem OwnL.nil : OwnL B w [] := ⟨fun f h => (by cases h), by simp, fun f h => (by cases h)⟩
theorem OwnL.ext (h : OwnL B w fs) (he : Ext w w') : OwnL B w' fs := ⟨fun f hf => ⟨(h.each f hf).1.ext he, (h.each f hf).2.ext he⟩, h.apart, h.ok⟩
theorem OwnL.row {B' n' : Nat} {u : Value} {ys : List Value} (h : OwnL B w fs) (k : w.ownsRow B' 32 3 u n' ys) (hg : w.grownBy w' u.ownBlock) : OwnL B w' fs :=
  ⟨fun f hf => ⟨(h.each f hf).1.row k (by decide) hg, (h.each f hf).2.row k (by decide) hg⟩, h.apart, h.ok⟩
theorem OwnL.len (h : OwnL B w fs) (hf : f ∈ fs) : f.lo.length ≤ 24 ∧ f.hi.length ≤ 24 := by
  have ho := h.ok f hf
  refine ⟨(isKeyB_iff.1 ho.key).2, ?_⟩
  cases hop : f.op with
  | true => show (rg f).hi.length ≤ 24; rw [ho.op hop]; simp
  | false => exact (isKeyB_iff.1 (ho.hi hop).1).2
theorem OwnL.sl (h : OwnL B w fs) (hf : f ∈ fs) : Sl w f.lA f.lc f.lo ∧ Sl w f.hA f.hc f.hi :=
  ⟨(h.each f hf).1.sl (Nat.le_trans (h.len hf).1 (by omega)), (h.each f hf).2.sl (Nat.le_trans (h.len hf).2 (by omega))⟩
theorem bl_lt (h : OwnL B w fs) (hf : f ∈ fs) {k : Nat} (hk : k ∈ bl f) : B ≤ k ∧ k < w.heap.size := by
  rcases List.mem_append.1 hk with hk | hk
  · exact World.ownsRow.lt (h.each f hf).1 k (Option.mem_toList.1 hk)
  · exact World.ownsRow.lt (h.each f hf).2 k (Option.mem_toList.1 hk)
theorem bl_new {r : Rg} {lA hA : Option Addr} {lc hc : Nat} (h : ROwn C w lA lc hA hc r) {k : Nat} (hk : k ∈ bl ⟨lA, lc, r.lo, hA, hc, r.hi, r.op⟩) : C ≤ k := by
  rcases List.mem_append.1 hk with hk | hk
  · exact (World.ownsRow.lt h.1 k (Option.mem_toList.1 hk)).1
  · exact (World.ownsRow.lt h.2.1 k (Option.mem_toList.1 hk)).1
theorem bl_nodup {r : Rg} {lA hA : Option Addr} {lc hc : Nat} (h : ROwn C w lA lc hA hc r) : (bl ⟨lA, lc, r.lo, hA, hc, r.hi, r.op⟩).Nodup := by
  have h1 := h.2.2
  unfold NoShare at h1
  unfold bl
  dsimp only
  cases e1 : (Value.slice lA r.lo.length lc).ownBlock with
  | none => cases (Value.slice hA r.hi.length hc).ownBlock <;> simp
  | some a =>
    cases e2 : (Value.slice hA r.hi.length hc).ownBlock with
    | none => simp
    | some b =>
      have h2 := h1 a e1
      rw [e2] at h2
      simp only [Option.toList_some, List.cons_append, List.nil_append, List.nodup_cons, List.mem_singleton, List.not_mem_nil, not_false_eq_true, List.nodup_nil, and_true]
      exact fun e => h2 (by rw [e])
theorem OwnL.snoc (h : OwnL B w fs) (hC : w.heap.size ≤ C) (hB : B ≤ C) (he : Ext w w') {r : Rg} {lA hA : Option Addr} {lc hc : Nat} (hr : ROwn C w' lA lc hA hc r) (hok : Okf r) : OwnL B w' (fs ++ [⟨lA, lc, r.lo, hA, hc, r.hi, r.op⟩]) := by
  refine ⟨fun f hf => ?_, ?_, fun f hf => ?_⟩
  · rcases List.mem_append.1 hf with hf | hf
    · exact (h.ext he).each f hf
    · rw [List.mem_singleton.1 hf]
      exact ⟨hr.1.mono hB, hr.2.1.mono hB⟩
  · rw [List.flatMap_append]
    refine List.nodup_append.2 ⟨h.apart, ?_, fun a ha b hb e => ?_⟩
    · simpa using bl_nodup hr
    · obtain ⟨f, hf, h1⟩ := List.mem_flatMap.1 ha
      have h2 := bl_lt h hf h1
      have h3 := bl_new hr (by simpa using hb)
      omega
  · rcases List.mem_append.1 hf with hf | hf
    · exact h.ok f hf
    · rw [List.mem_singleton.1 hf]; exact hok
theorem OwnL.perm {gs : List Fr} (h : OwnL B w fs) (hp : gs.Perm fs) : OwnL B w gs :=
  ⟨fun f hf => h.each f (hp.mem_iff.1 hf), (hp.flatMap_right _).nodup_iff.2 h.apart, fun f hf => h.ok f (hp.mem_iff.1 hf)⟩
theorem own_dg {g c : Nat} {A : Option Addr} {bs : List UInt8} (h : Own 5 B w A c bs) (hx : Exc (DG g) w w') {B' cap n : Nat} {ys : List Value} (k : w.ownsRow B' 32 3 (.slice (some ⟨g, 0, none⟩) n cap) n ys) : Own 5 B w' A c bs := by
  have hne := ownBlock_ne h k (by decide)
  refine ⟨h.1, ?_⟩
  rcases h.2 with h0 | ⟨q, cap', cur, hv, hb, hg, r⟩
  · exact .inl h0
  · refine .inr ⟨q, cap', cur, hv, hb, hx.blk hg (fun e => ?_), r⟩
    rw [hv] at hne
    rcases hne with h1 | h1
    · cases h1
    · exact h1 (by rw [show q = g from e]; rfl)
theorem OwnL.dg {g B' cap n : Nat} {ys : List Value} (h : OwnL B w fs) (hx : Exc (DG g) w w') (k : w.ownsRow B' 32 3 (.slice (some ⟨g, 0, none⟩) n cap) n ys) : OwnL B w' fs :=
  ⟨fun f hf => ⟨own_dg (h.each f hf).1 hx k, own_dg (h.each f hf).2 hx k⟩, h.apart, h.ok⟩
theorem OwnL.sr {g cap : Nat} (h : OwnL C w fs) (k : w.ownsRow B 32 3 (.slice (some ⟨g, 0, none⟩) fs.length cap) fs.length (fs.flatMap c3)) : SR B g cap fs.toArray w := by
  refine ⟨by simpa using k, fun i hi => ?_⟩
  have hm : fs.toArray[i]! ∈ fs := by
    rw [getElem!_pos fs.toArray i hi]
    simp
  refine ⟨(h.sl hm).1, fun hn a ha e => ?_⟩
  obtain ⟨q, hq, _⟩ := Own.form (h.each _ hm).1 hn
  have hne := ownBlock_ne (h.each _ hm).1 k (by decide)
  rw [hq] at hne ha
  injection ha with ha
  rcases hne with h1 | h1
  · cases h1
  · refine h1 ?_
    rw [← ha] at e
    rw [show q = g from e]
    rfl
/-- What the sort leaves. -/
theorem perm_list {d d' : Array Fr} (h : PermIn 0 d.size d d') : d'.toList.Perm d.toList := by
  have h1 := h.2.2
  have h2 := h.1
  rw [show d.extract 0 d.size = d by simp, show d'.extract 0 d.size = d' by rw [← h2]; simp] at h1
  exact h1
theorem sorted_le_lo {d : Array Fr} (h : SortedIn ltF 0 d.size d) {i j : Nat} (hij : i ≤ j) (hj : j < d.size) : LeB d[i]!.lo d[j]!.lo := by
  have h1 := sorted_le swo_ltF h (Nat.zero_le i) hij hj
  exact LtB.not.1 (of_decide_eq_false h1)
theorem seen_le {d : Array Fr} (h : SortedIn ltF 0 d.size d) {i : Nat} {f : Fr} (hf : d.toList[i]? = some f) : ∀ s ∈ (d.toList.take i).map rg, LeB s.lo (rg f).lo := by
  intro s hs
  obtain ⟨t, ht, rfl⟩ := List.mem_map.1 hs
  obtain ⟨j, hj, he⟩ := List.mem_take_iff_getElem.1 ht
  obtain ⟨hi, hfe⟩ := List.getElem?_eq_some_iff.1 hf
  have h1 := sorted_le_lo h (i := j) (j := i) (by omega) (by simpa using hi)
  rw [getElem!_pos d j (by simp at hj; omega), getElem!_pos d i (by simpa using hi)] at h1
  simp only [Array.getElem_toList] at he hfe
  rw [he, hfe] at h1
  exact h1
theorem two_at {g cap : Nat} {i : Nat} (h : w.ownsRow B 32 3 (.slice (some ⟨g, 0, none⟩) fs.length cap) fs.length (fs.flatMap c3)) (hf : fs[i]? = some f) : Two w g (i * 3) f.lA f.lo.length f.lc f.hA f.hi.length f.hc f.op := by
  have hi := (List.getElem?_eq_some_iff.1 hf).1
  have key : ∀ j, j < 3 → w.cell? ⟨g, i * 3 + j, none⟩ = (c3 f)[j]? := fun j hj => by
    rw [World.ownsRow.cellAt h (i * 3 + j) (by omega)]
    exact flatN (f := c3) (n := 3) (fun _ => rfl) fs i j f hf hj
  exact ⟨key 0 (by decide), key 1 (by decide), key 2 (by decide)⟩
theorem snoc_row {v : Value} (h : w.ownsRow B 32 3 v (fs.length + 1) (fs.flatMap c3 ++ c3 f)) : w.ownsRow B 32 3 v (fs ++ [f]).length ((fs ++ [f]).flatMap c3) := by
  have e1 : (fs ++ [f]).length = fs.length + 1 := by simp
  have e2 : (fs ++ [f]).flatMap c3 = fs.flatMap c3 ++ c3 f := by simp
  rw [e1, e2]
  exact h
theorem len_flat (fs : List Fr) : (fs.flatMap c3).length = fs.length * 3 := by
  induction fs with
  | nil => rfl
  | cons f fs ih => rw [List.flatMap_cons, List.length_append, ih]; simp; omega
theorem set_last (fs : List Fr) (x : Fr) (j : Nat) (u : Value) : ((fs ++ [x]).flatMap c3).set (fs.length * 3 + j) u = fs.flatMap c3 ++ (c3 x).set j u := by
  rw [List.flatMap_append, List.set_append_right _ _ (by rw [len_flat]; omega), len_flat]
  simp
/-- What a merge leaves: open; f's end; as it was. -/
def uH (x f : Fr) : Nat → Fr
  | 0 => ⟨x.lA, x.lc, x.lo, none, 0, [], true⟩
  | 1 => ⟨x.lA, x.lc, x.lo, f.hA, f.hc, f.hi, false⟩
  | _ => x
theorem OwnL.uni {x f : Fr} {a r : List Fr} (h : OwnL B w (a ++ [x] ++ f :: r)) (k : Nat) (hok : Okf (rg (uH x f k))) : OwnL B w (a ++ [uH x f k] ++ r) := by
  have hx : x ∈ a ++ [x] ++ f :: r := by simp
  have hf : f ∈ a ++ [x] ++ f :: r := by simp
  refine ⟨fun t ht => ?_, ?_, fun t ht => ?_⟩
  · simp only [List.append_assoc, List.cons_append, List.nil_append, List.mem_append, List.mem_cons] at ht
    rcases ht with ht | rfl | ht
    · exact h.each t (by simp [ht])
    · match k with
      | 0 => exact ⟨(h.each x hx).1, own_nil _ _ _⟩
      | 1 => exact ⟨(h.each x hx).1, (h.each f hf).2⟩
      | _ + 2 => exact h.each x hx
    · exact h.each t (by simp [ht])
  · refine List.Nodup.sublist ?_ h.apart
    simp only [List.append_assoc, List.cons_append, List.nil_append, List.flatMap_append, List.flatMap_cons]
    refine List.Sublist.append_left ?_ _
    rw [← List.append_assoc (bl x)]
    refine List.Sublist.append_right ?_ _
    match k with
    | 0 => exact List.Sublist.trans (by unfold bl uH; simp [Value.ownBlock]) (List.sublist_append_left (bl x) (bl f))
    | 1 => unfold bl uH; exact List.Sublist.append (List.sublist_append_left _ _) (List.sublist_append_right _ _)
    | _ + 2 => exact List.sublist_append_left _ _
  · simp only [List.append_assoc, List.cons_append, List.nil_append, List.mem_append, List.mem_cons] at ht
    rcases ht with ht | rfl | ht
    · exact h.ok t (by simp [ht])
    · exact hok
    · exact h.ok t (by simp [ht])
theorem set_tail (a : List Fr) (t : List Value) (j : Nat) (u : Value) : (a.flatMap c3 ++ t).set (a.length * 3 + j) u = a.flatMap c3 ++ t.set j u := by
  rw [List.set_append_right _ _ (by rw [len_flat]; omega), len_flat]
  simp
theorem set2 (a : List Fr) (x f : Fr) : (((a ++ [x]).flatMap c3).set (a.length * 3 + 1) (.slice none 0 0)).set (a.length * 3 + 2) (.bool true) = (a ++ [uH x f 0]).flatMap c3 := by
  rw [List.flatMap_append, set_tail, set_tail, List.flatMap_append]
  rfl
theorem set1 (a : List Fr) (x f : Fr) (hx : x.op = false) : ((a ++ [x]).flatMap c3).set (a.length * 3 + 1) (.slice f.hA f.hi.length f.hc) = (a ++ [uH x f 1]).flatMap c3 := by
  rw [List.flatMap_append, set_tail, List.flatMap_append]
  simp [uH, hx]
theorem Merged.seen_nil {seen : List Rg} (h : Merged seen []) (ho : ∀ s ∈ seen, Okf s) : seen = [] := by
  cases seen with
  | nil => rfl
  | cons s t =>
    have h1 := ho s (.head _)
    have h2 := h.any s.lo h1.key
    rw [anyB_cons, h1.has_lo] at h2
    simp [anyB] at h2
theorem Merged.begin {seen : List Rg} {f : Rg} (h : Merged seen []) (ho : ∀ s ∈ seen, Okf s) (hf : Okf f) : Merged (seen ++ [f]) [f] := by
  rw [h.seen_nil ho]
  exact Merged.first hf
theorem Merged.lef {seen os : List Rg} {x f : Rg} (h : Merged seen (os ++ [x])) (hle : ∀ s ∈ seen, LeB s.lo f.lo) : LeB x.lo f.lo := by
  obtain ⟨s, hs1, hs2⟩ := h.le x (List.mem_append_right _ (List.mem_singleton.2 rfl))
  rw [hs2]
  exact hle s hs1
end
end Go.Proofs.Ytijlaknfagpglaa
