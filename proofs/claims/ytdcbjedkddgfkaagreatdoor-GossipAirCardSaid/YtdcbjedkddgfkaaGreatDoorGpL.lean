/-
  Gossip: what the link carries of a list of notes, in plain Lean. No condition.
-/
import Derived.Test.YtdcbjedkddgfkaaGreatDoorGpM
import Derived.Test.YtdcbjedkddgfkaaGreatDoorLC
namespace Go.Proofs.YtdcbjedkddgfkaaGreatDoor
set_option linter.unusedVariables false
set_option linter.unusedSimpArgs false
set_option linter.unusedSectionVars false
open Go.RowKit
def msgN (m : NM) : Msg := ⟨m.h, 399, encN m⟩
def evS (m : NM) : Ev := ⟨0, m.h, 399, encN m⟩
def evD (_ : NM) : Ev := ⟨1, 0, 0, []⟩
def airOk (m : NM) : Bool := right m && decide (¬ m.h = 399)
section
variable {m x : NM} {l a O O2 : List NM} {A : Air}
theorem enc_len (h : right m = true) : (encN m).length ≤ 20000 := by
 obtain ⟨⟨h1, _⟩, ⟨h2, _⟩, ⟨h3, _⟩⟩ := right_ok h
 obtain ⟨l1, l2⟩ := right_len h
 have e1 := numE_len h1
 have e2 := numE_len h2
 have e3 := numE_len h3
 have e4 := numsE_len (l := flat2 m.l) (fun x hx => by
  obtain ⟨r, hr, hx⟩ := List.mem_flatMap.1 hx
  obtain ⟨i, hi⟩ := List.getElem?_of_mem hr
  have := ref_bnd h hi
  simp only [List.mem_cons, List.not_mem_nil, or_false] at hx
  show I64 x
  rcases hx with rfl | rfl <;> (unfold I64; omega)) (by rw [flat2_len]; omega)
 have e5 := text_size2 (s := m.s) (by omega)
 unfold encN
 simp only [List.length_append]
 omega
theorem right_msg (h : airOk m = true) : Lnk.rightM (msgN m) = true := by
 unfold airOk at h
 rw [Bool.and_eq_true] at h
 have h1 := enc_len h.1
 have h2 := right_bnd h.1
 have h3 := of_decide_eq_true h.2
 unfold Lnk.rightM Lnk.houses msgN
 rw [Bool.and_eq_true, decide_eq_true_eq, decide_eq_true_eq]
 exact ⟨⟨h2.1, h2.2.1, (by decide : (0 : Int) ≤ 399), (by decide : (399 : Int) < 400), h3⟩, h1⟩
theorem right_app {B : Msg} (h : Lnk.right A = true) (hB : Lnk.rightM B = true) (hl : A.ms.length < 1000) : Lnk.right { A with ms := A.ms ++ [B] } = true := by
 unfold Lnk.right at h ⊢
 simp only [Bool.and_eq_true, decide_eq_true_eq, List.all_append, List.all_cons, List.all_nil, List.length_append, List.length_cons, List.length_nil, Bool.and_true] at h ⊢
 exact ⟨⟨h.1.1, by omega⟩, h.2, hB⟩
theorem runs_send : ∀ (l : List NM) (A : Air), (∀ x ∈ l, airOk x = true) → Lnk.right A = true → A.ms.length + l.length ≤ 1000 → (Lnk.runs A (l.map evS)).1 = ⟨A.ms ++ l.map msgN, A.cs⟩
 | [], A, _, _, _ => by simp [Lnk.runs]
 | m :: l, A, h, hr, hl => by
  have hm := right_msg (h m List.mem_cons_self)
  simp only [List.length_cons] at hl
  have e : Lnk.send A ⟨m.h, 399, encN m⟩ = ({ A with ms := A.ms ++ [msgN m] }, 0) := by
   unfold Lnk.send
   rw [if_neg (fun h => h.elim (fun h => by rw [hr] at h; cases h) (fun h => by rw [show Lnk.rightM ⟨m.h, 399, encN m⟩ = true from hm] at h; cases h))]
   unfold Lnk.with_
   rw [if_neg (by omega)]; rfl
  have e2 : Lnk.next A (evS m) = { A with ms := A.ms ++ [msgN m] } := by
   unfold Lnk.next Lnk.do_ evS
   simp only [if_true, e]
  rw [List.map_cons]
  show (Lnk.runs (Lnk.next A (evS m)) (l.map evS)).1 = _
  rw [e2, runs_send l _ (fun x hx => h x (List.mem_cons_of_mem _ hx)) (right_app hr hm (by omega)) (by simp only [List.length_append, List.length_cons, List.length_nil]; omega)]
  simp [List.append_assoc]
theorem right_tail {B : Msg} {ms : List Msg} {cs : List Pr} (h : Lnk.right ⟨B :: ms, cs⟩ = true) : Lnk.right ⟨ms, cs⟩ = true := by
 unfold Lnk.right at h ⊢
 simp only [Bool.and_eq_true, decide_eq_true_eq, List.all_cons, List.length_cons] at h ⊢
 exact ⟨⟨h.1.1, by omega⟩, h.2.2⟩
theorem runs_deliver : ∀ (l : List NM) (ms : List Msg), Lnk.right ⟨ms, []⟩ = true → ms = l.map msgN → (Lnk.runs ⟨ms, []⟩ (l.map evD)).2.1 = ms
 | [], ms, _, h => by rw [h]; rfl
 | m :: l, ms, hr, h => by
  rw [List.map_cons] at h
  subst h
  have hb : Lnk.bad ⟨msgN m :: l.map msgN, []⟩ 0 = 0 := by
   unfold Lnk.bad
   rw [if_neg (by rw [hr]; simp), if_neg (by simp only [List.length_cons]; omega)]
  have e : Lnk.deliver ⟨msgN m :: l.map msgN, []⟩ 0 = (⟨l.map msgN, []⟩, msgN m, 0) := by
   unfold Lnk.deliver
   rw [if_neg (by rw [hb]; simp), if_neg (by simp [Lnk.isCut])]
   rfl
  have e1 : Lnk.do_ ⟨msgN m :: l.map msgN, []⟩ (evD m) = (⟨l.map msgN, []⟩, [msgN m], 0) := by
   unfold Lnk.do_ evD
   simp [e]
  have e2 : Lnk.next ⟨msgN m :: l.map msgN, []⟩ (evD m) = ⟨l.map msgN, []⟩ := by
   unfold Lnk.next; rw [e1]; rfl
  rw [List.map_cons]
  show (Lnk.do_ ⟨msgN m :: l.map msgN, []⟩ (evD m)).2.1 ++ (Lnk.runs (Lnk.next ⟨msgN m :: l.map msgN, []⟩ (evD m)) (l.map evD)).2.1 = _
  rw [e1, e2, runs_deliver l _ (right_tail hr) rfl]
  rfl
theorem right_none : Lnk.right ⟨[], []⟩ = true := rfl
theorem right_all (h : ∀ x ∈ l, airOk x = true) (hl : l.length ≤ 1000) : Lnk.right ⟨l.map msgN, []⟩ = true := by
 unfold Lnk.right
 simp only [Bool.and_eq_true, decide_eq_true_eq, List.length_map]
 refine ⟨⟨⟨rfl, rfl⟩, hl⟩, List.all_eq_true.2 fun B hB => ?_⟩
 obtain ⟨x, hx, rfl⟩ := List.mem_map.1 hB
 exact right_msg (h x hx)
/-- the three runs of the law -/
theorem run_1 (h : ∀ x ∈ a, airOk x = true) (hl : a.length ≤ 1000) : (Lnk.run ⟨[], []⟩ (a.map evS)).1 = ⟨a.map msgN, []⟩ := by
 unfold Lnk.run
 rw [if_neg (by rw [right_none]; simp), runs_send a _ h right_none (by simpa using hl)]
 rfl
theorem run_2 (h : ∀ x ∈ a, airOk x = true) (hl : a.length ≤ 1000) {E : List Ev} (hE : ∀ e ∈ E, ¬ e.k = 0) : ∀ m ∈ (Lnk.run ⟨a.map msgN, []⟩ E).2.1, ∃ x ∈ a, m = msgN x := by
 intro m hm
 unfold Lnk.run at hm
 rw [if_neg (by rw [right_all h hl]; simp)] at hm
 rcases Lnk.came_from m E _ hm with h1 | ⟨e, he, hk, _⟩
 · obtain ⟨x, hx, e⟩ := List.mem_map.1 h1
   exact ⟨x, hx, e.symm⟩
 · exact absurd hk (hE e he)
theorem run_3 (h : ∀ x ∈ a, airOk x = true) (hl : a.length ≤ 1000) : (Lnk.run ⟨a.map msgN, []⟩ (a.map evD)).2.1 = a.map msgN := by
 unfold Lnk.run
 rw [if_neg (by rw [right_all h hl]; simp)]
 exact runs_deliver a _ (right_all h hl) rfl
/-- reading what was written -/
theorem read_msg (h : right m = true) : decOk (encN m) = true ∧ ns (decN (encN m)) = ns m := by
 have h1 := dec_enc h (fun r hr => by
  obtain ⟨i, hi⟩ := List.getElem?_of_mem hr
  have := ref_bnd h hi
  unfold Wr.Ok
  omega)
 exact ⟨h1.1, by rw [h1.2]; rfl⟩
theorem heard_has (hO : O.map ns = l.map fun m => ns m) (hl : ∀ x ∈ l, x ∈ a) {i : Nat} (hx : O[i]? = some x) : hasN a x = true := by
 refine decide_eq_true ?_
 have h1 : ns x ∈ O.map ns := List.mem_map_of_mem (List.mem_of_getElem? hx)
 rw [hO] at h1
 obtain ⟨y, hy, e⟩ := List.mem_map.1 h1
 rw [← e]; exact List.mem_map_of_mem (hl y hy)
theorem heard_join (hO : O.map ns = l.map fun m => ns m) (hl : ∀ x ∈ l, x ∈ a) (hO2 : O2.map ns = a.map ns) : joinN (O ++ O2) = joinN a := by
 rw [join_app_ns hO hO2]
 exact join_mem fun x => by
  rw [List.mem_append]
  exact ⟨fun h => h.elim (hl x) id, .inr⟩
end
end Go.Proofs.YtdcbjedkddgfkaaGreatDoor
