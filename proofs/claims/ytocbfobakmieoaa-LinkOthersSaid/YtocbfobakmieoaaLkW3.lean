/-
  slices.Clone and the link's clone, walked. Condition: at most 1,000,000 elements.
-/
import Derived.Test.YtocbfobakmieoaaLkW2
namespace Go.Proofs.Ytocbfobakmieoaa
set_option linter.unusedVariables false
set_option linter.unusedSimpArgs false
set_option linter.unusedSectionVars false
open Go.RowKit

/-- a row of its own with these cells -/
def CloneRow (t : TypeId) (size n : Nat) (xs : List Value) (W : World) (e : Ending) (w' : World) : Prop :=
  ∃ A' c', e = .returned (.slice A' n c') ∧ Only NoF W w' ∧ w'.ownsRow W.heap.size t size (.slice A' n c') n xs

set_option maxHeartbeats 400000 in
theorem cloneMsg_c (w : World) (S : Nat → Prop) (A : Option Addr) (n cap : Nat) (xs : List Value) (hr : Reads w S 3 A n xs) (h1 : ∀ u ∈ xs, u.oneCell' = true) (hn : n ≤ 100000000) :
    Calls Try.prog 57 #[.slice A n cap] w (CloneRow 27 3 n xs w) := by
  cases A with
  | none =>
    have he := fun W : World => Lib.run_eql_slice_nil (P := Try.prog) W 22 27 none n cap 0 0 Try.underlying22
    have h0 : n = 0 := by
      rcases Nat.eq_zero_or_pos n with h0 | h0
      · exact h0
      · obtain ⟨ad, h, _⟩ := hr.2 h0
        cases h
    subst h0
    obtain rfl : xs = [] := List.eq_nil_of_length_eq_zero (by simpa using hr.1)
    clear hr h1
    go_enter Try.func57, Try.ntmps57
    go_wp2
    go_ret
    exact ⟨_, _, rfl, Only.refl _ _, World.ownsRow_nil _ _ _ _⟩
  | some ad =>
    have he := fun W : World => Lib.run_eql_slice_nil (P := Try.prog) W 22 27 (some ad) n cap 0 0 Try.underlying22
    obtain ⟨i, hi, hz0, hz1, hz2⟩ := info_parts info_Msg
    have hr' : Reads (w.alloc (.cells #[] 27)) S 3 (some ad) n xs := hr.keep (by simp) fun p _ hp => World.cell?_alloc_lt w _ p hp
    have hown := World.ownsRow_made (base := w.heap.size) (e := 27) (size := 3) w #[] 0 (Nat.le_refl _) (Nat.zero_le _) rfl
    go_enter Try.func57, Try.ntmps57
    go_wp2_with (at_builtin; refine wpList_append_any _ rfl _ _ _ rfl w.heap.size 27 i _ 3 32 Try.underlying22 hi hz0 hz1 hz2 rfl (by decide) (.slice (some ⟨w.heap.size, 0, none⟩) 0 0) 0 [] rfl hown S (some ad) n cap xs rfl hr' h1 (by unfold maxLen; omega) (by omega) (by simp) ?_; intro v' w1 hown1 hgrow _)
    go_ret
    simp only [Nat.zero_add, List.nil_append] at hown1
    obtain ⟨A', c', e1, _⟩ := Reads.of_own hown1
    refine ⟨A', c', by rw [← e1]; rfl, ((Only.refl _ _).alloc _).grown hgrow fun k hk => .inr ?_, ?_⟩
    · simp [Value.ownBlock] at hk
      omega
    · rw [← e1]; exact hown1
set_option maxHeartbeats 400000 in
theorem clonePr_c (w : World) (S : Nat → Prop) (A : Option Addr) (n cap : Nat) (xs : List Value) (hr : Reads w S 2 A n xs) (h1 : ∀ u ∈ xs, u.oneCell' = true) (hn : n ≤ 100000000) :
    Calls Try.prog 58 #[.slice A n cap] w (CloneRow 60 2 n xs w) := by
  cases A with
  | none =>
    have he := fun W : World => Lib.run_eql_slice_nil (P := Try.prog) W 23 60 none n cap 0 0 Try.underlying23
    have h0 : n = 0 := by
      rcases Nat.eq_zero_or_pos n with h0 | h0
      · exact h0
      · obtain ⟨ad, h, _⟩ := hr.2 h0
        cases h
    subst h0
    obtain rfl : xs = [] := List.eq_nil_of_length_eq_zero (by simpa using hr.1)
    clear hr h1
    go_enter Try.func58, Try.ntmps58
    go_wp2
    go_ret
    exact ⟨_, _, rfl, Only.refl _ _, World.ownsRow_nil _ _ _ _⟩
  | some ad =>
    have he := fun W : World => Lib.run_eql_slice_nil (P := Try.prog) W 23 60 (some ad) n cap 0 0 Try.underlying23
    obtain ⟨i, hi, hz0, hz1, hz2⟩ := info_parts info_Pr
    have hr' : Reads (w.alloc (.cells #[] 60)) S 2 (some ad) n xs := hr.keep (by simp) fun p _ hp => World.cell?_alloc_lt w _ p hp
    have hown := World.ownsRow_made (base := w.heap.size) (e := 60) (size := 2) w #[] 0 (Nat.le_refl _) (Nat.zero_le _) rfl
    go_enter Try.func58, Try.ntmps58
    go_wp2_with (at_builtin; refine wpList_append_any _ rfl _ _ _ rfl w.heap.size 60 i _ 2 16 Try.underlying23 hi hz0 hz1 hz2 rfl (by decide) (.slice (some ⟨w.heap.size, 0, none⟩) 0 0) 0 [] rfl hown S (some ad) n cap xs rfl hr' h1 (by unfold maxLen; omega) (by omega) (by simp) ?_; intro v' w1 hown1 hgrow _)
    go_ret
    simp only [Nat.zero_add, List.nil_append] at hown1
    obtain ⟨A', c', e1, _⟩ := Reads.of_own hown1
    refine ⟨A', c', by rw [← e1]; rfl, ((Only.refl _ _).alloc _).grown hgrow fun k hk => .inr ?_, ?_⟩
    · simp [Value.ownBlock] at hk
      omega
    · rw [← e1]; exact hown1

def Few_ (a : Air) : Prop := a.ms.length ≤ 1000000 ∧ a.cs.length ≤ 1000000
/-- an Air whose rows are its own -/
def OwnAir (base : Nat) (w' : World) (v : Value) (a : Air) : Prop :=
  ∃ v1 v2, v = .agg #[v1, v2] ∧ w'.ownsRow base 27 3 v1 a.ms.length (msgCells a.ms) ∧ w'.ownsRow base 60 2 v2 a.cs.length (prCells a.cs)
def CloneTo (w : World) (a : Air) (e : Ending) (w' : World) : Prop := ∃ v, e = .returned v ∧ OwnAir w.heap.size w' v a ∧ Only NoF w w'

theorem own_only {w w' : World} {F : Nat → Prop} {base : Nat} {e : TypeId} {size n : Nat} {v : Value} {xs : List Value} (h : w.ownsRow base e size v n xs) (ho : Only F w w') (hF : ∀ k, v.ownBlock = some k → ¬ F k) : w'.ownsRow base e size v n xs := by
  obtain ⟨h1, h2⟩ := h
  refine ⟨h1, ?_⟩
  rcases h2 with h2 | ⟨g, cap, cur, hv, hg, hh, r⟩
  · exact .inl h2
  · exact .inr ⟨g, cap, cur, hv, hg, by rw [ho.block g (heap_lt hh) (hF g (by rw [hv]; rfl))]; exact hh, r⟩
theorem own_keep {w w' : World} {base : Nat} {e : TypeId} {size n : Nat} {v : Value} {xs : List Value} (h : w.ownsRow base e size v n xs) (ho : Only NoF w w') : w'.ownsRow base e size v n xs := own_only h ho fun _ _ h => h
theorem OwnAir.keep {base : Nat} {w w' : World} {v : Value} {a : Air} (h : OwnAir base w v a) (ho : Only NoF w w') : OwnAir base w' v a := by
  obtain ⟨v1, v2, e, h1, h2⟩ := h
  exact ⟨v1, v2, e, own_keep h1 ho, own_keep h2 ho⟩
theorem OwnAir.set_ {base : Nat} {w : World} {v : Value} {a : Air} (h : OwnAir base w v a) {p : Addr} (hp : p.block < base) (u : Value) : OwnAir base (w.setCell p u) v a := by
  obtain ⟨v1, v2, e, h1, h2⟩ := h
  exact ⟨v1, v2, e, ownsRow_setCell_below h1 hp u, ownsRow_setCell_below h2 hp u⟩
theorem OwnAir.low {base base' : Nat} {w : World} {v : Value} {a : Air} (h : OwnAir base w v a) (hb : base' ≤ base) : OwnAir base' w v a := by
  obtain ⟨v1, v2, e, h1, h2⟩ := h
  exact ⟨v1, v2, e, own_base h1 hb, own_base h2 hb⟩
theorem OwnAir.air {base : Nat} {w : World} {v : Value} {a : Air} (h : OwnAir base w v a) (hm : ∀ m ∈ a.ms, MsgOk m) (hc : ∀ p ∈ a.cs, I64 p.x ∧ I64 p.y) : AirV w v a := by
  obtain ⟨v1, v2, e, h1, h2⟩ := h
  exact ⟨v1, v2, e, Msgs.own h1 rfl hm, Prs.own h2 rfl hc⟩
theorem AirV.oks {w : World} {v : Value} {a : Air} (h : AirV w v a) : (∀ m ∈ a.ms, MsgOk m) ∧ ∀ p ∈ a.cs, I64 p.x ∧ I64 p.y := by
  obtain ⟨v1, v2, e, h1, h2⟩ := h
  exact ⟨Msgs.oks h1, Prs.oks h2⟩
theorem Blk.new2 (w : World) (o : Obj) (t : TypeId) (cs : Array Value) : Blk ((w.alloc o).alloc (.cells cs t)) (w.heap.size + 1) t cs := by
  have h := Blk.new (w.alloc o) t cs
  have e : (w.alloc o).heap.size = w.heap.size + 1 := by simp
  rwa [e] at h
section
variable {w : World} {v : Value}
set_option maxHeartbeats 1000000 in
theorem nclone_c {a : Air} (h : AirV w v a) (hf : Few_ a) : Calls Try.prog 44 #[v] w (CloneTo w a) := by
  obtain ⟨v1, v2, rfl, hm, hc⟩ := h
  obtain ⟨A1, c1, rfl, m1, m2, hr1⟩ := Msgs.cells hm
  obtain ⟨A2, c2, rfl, n1, n2, hr2⟩ := Prs.cells hc
  clear hm hc
  obtain ⟨f1, f2⟩ := hf
  have HC1 := Lib.hid (fun (W : World) (hW : Only NoF w W) => cloneMsg_c W AllB A1 a.ms.length c1 (msgCells a.ms) (hr1.only hW fun _ _ h => h) (msgCells_one _) (by omega))
  have HC2 := Lib.hid (fun (W : World) (hW : Only NoF w W) => clonePr_c W AllB A2 a.cs.length c2 (prCells a.cs) (hr2.only hW fun _ _ h => h) (prCells_one _) (by omega))
  clear hr1 hr2
  have hks : ∀ W, Only NoF (((w.alloc (.cells #[.slice A1 a.ms.length c1, .slice A2 a.cs.length c2] 25)).alloc (.cells #[.slice none 0 0, .slice none 0 0] 25)).drew) W → Only NoF w W ∧ W.cell? ⟨w.heap.size, 0, none⟩ = some (.slice A1 a.ms.length c1) ∧ W.cell? ⟨w.heap.size, 1, none⟩ = some (.slice A2 a.cs.length c2) := fun W h => by
    have hn := ((Blk.new w 25 #[.slice A1 a.ms.length c1, .slice A2 a.cs.length c2]).alloc (.cells #[.slice none 0 0, .slice none 0 0] 25)).drew.only h (fun h => h)
    exact ⟨((((Only.refl _ w).alloc _).alloc _).drew).trans' h, (hn.cell 0).trans rfl, (hn.cell 1).trans rfl⟩
  have hts : ∀ W, Only NoF (((w.alloc (.cells #[.slice A1 a.ms.length c1, .slice A2 a.cs.length c2] 25)).alloc (.cells #[.slice none 0 0, .slice none 0 0] 25)).drew) W → Blk W (w.heap.size + 1) 25 #[.slice none 0 0, .slice none 0 0] := fun W h =>
    (Blk.new2 w _ _ _).drew.only h fun h => h
  have HKS := Lib.hid hks
  have HTS := Lib.hid hts
  clear hks hts
  go_enter Try.func44, Try.ntmps44
  go_wp2_with fail
  go_region_held3 (fun w' => w'.cell? ⟨w.heap.size, 0, none⟩ = some (.slice A1 a.ms.length c1) ∧ w'.cell? ⟨w.heap.size, 1, none⟩ = some (.slice A2 a.cs.length c2))
    (first | go_keep | exact K2.out | exact K3.out)
    (first
      | (go_at_call 57; refine (HC1.out _ (HKS.out _ (Only.refl _ _)).1).mono ?_; rintro e w2 ⟨B1, d1, rfl, o1, r1⟩; have K2 := Lib.hid (HKS.out _ o1).2; have O1 := Lib.hid o1; have R1 := Lib.hid r1; clear o1 r1)
      | (go_at_call 58; refine (HC2.out _ (HKS.out _ O1.out).1).mono ?_; rintro e w3 ⟨B2, d2, rfl, o2, r2⟩; have K3 := Lib.hid (HKS.out _ (O1.out.trans' o2)).2; have T2 := Lib.hid (HTS.out _ (O1.out.trans' o2)); have t0 := T2.out.cell 0; have t1 := T2.out.cell 1; have z0 := T2.out.frozen 0; have z1 := T2.out.frozen 1; have O2 := Lib.hid o2; have R2 := Lib.hid r2; clear o2 r2))
  go_wp2
  refine bodyPost_ret (results_cell_row rfl _ _ (w.heap.size + 1) 25 #[.slice B1 a.ms.length d1, .slice B2 a.cs.length d2] (0, 0) _ rfl ?_ Try.underlying25 rfl (by kernel_rfl)) rfl ?_
  · have := (T2.out.set_ 0 (.slice B1 a.ms.length d1)).set_ 1 (.slice B2 a.cs.length d2)
    exact this
  · have hs : w.heap.size + 2 ≤ ((w.alloc (.cells #[.slice A1 a.ms.length c1, .slice A2 a.cs.length c2] 25)).alloc (.cells #[.slice none 0 0, .slice none 0 0] 25)).drew.heap.size := by
      simp [World.drew]
    have hs2 := O1.out.size
    refine ⟨_, rfl, OwnAir.low (base := w.heap.size + 2) (OwnAir.set_ (OwnAir.set_ ⟨_, _, rfl, own_base (own_keep R1.out O2.out) hs, own_base R2.out (by omega)⟩ (by simp) _) (by simp) _) (by omega), ?_⟩
    exact (((((((Only.refl NoF w).alloc _).alloc _).drew).trans' O1.out).trans' O2.out).setCell (.inr (by simp)) _).setCell (.inr (by simp)) _
end
end Go.Proofs.Ytocbfobakmieoaa
