/-
  The seal: Clone of refs and notes, Next, walked. Condition: at most 1000 of each.
-/
import Derived.Test.YtgmnoianhonihaaDoorSW2
import Derived.Test.YtgmnoianhonihaaDoorSClone
namespace Go.Proofs.YtgmnoianhonihaaDoor
set_option linter.unusedVariables false
set_option linter.unusedSimpArgs false
set_option linter.unusedSectionVars false
open Go.RowKit

def CloneTo {α : Type} (K : Row α) (e : TypeId) (l : List α) (w : World) (x : Ending) (w' : World) : Prop :=
  ∃ A c, x = .returned (.slice A l.length c) ∧ w'.ownsRow w.heap.size e K.size (.slice A l.length c) l.length (l.flatMap K.cells) ∧ Only NoF w w'
theorem cloneRefs_v {w : World} {v : Value} {l : List RM} (h : RefsV w v l) (hl : l.length ≤ 100000) : Calls Tryd.prog 83 #[v] w (CloneTo KRef 71 l w) := by
  obtain ⟨A, c, rfl, _, _, hr⟩ := Row.reads KRef h
  refine (cloneRef_c w AllB A l.length c _ hr (flat_one KRef l) (by omega)).mono ?_
  rintro e w' ⟨A', c', rfl, o, ho⟩
  exact ⟨A', c', rfl, ho, o⟩
theorem cloneNotes_v {w0 w : World} {v : Value} {l : List NM} (h : NotesV w0 w v l) (hl : l.length ≤ 100000) : Calls Tryd.prog 84 #[v] w (CloneTo (KNote w0) 54 l w) := by
  obtain ⟨A, c, rfl, _, _, hr⟩ := Row.reads (KNote w0) h
  refine (cloneNote_c w AllB A l.length c _ hr (flat_one (KNote w0) l) (by omega)).mono ?_
  rintro e w' ⟨A', c', rfl, o, ho⟩
  exact ⟨A', c', rfl, ho, o⟩
theorem notes_up {w w' W : World} {v : Value} {l : List NM} (h : SliceOf AllB 5 (KNote w).R W v l) (o : Only NoF w w') : SliceOf AllB 5 (KNote w').R W v l :=
  SliceOf.only h (Only.refl NoF W) (fun _ _ h => h) fun cs x _ hR => ⟨hR.1, hR.2.1, hR.2.2.1, hR.2.2.2.1, SliceOf.kp hR.2.2.2.2.1 o (fun _ _ h => h) (fun _ _ _ _ h => h), hR.2.2.2.2.2⟩
theorem Check_v {w : World} {v : Value} {l : List NM} (h : NotesV w w v l) : Calls Tryd.prog 60 #[v] w (Fix (.int .i64 (check l)) w) := by
  obtain ⟨A1, c1, rfl, _⟩ := SliceOf.shape h
  exact Check_v_ h
theorem chk_last {h0 a b dd : Int} {A A' : Option Addr} {q : List RM} {c c' : Nat} {t : Str} : ∀ (l : List NM) (i : Nat) (d : Int), chk h0 i d (l ++ [⟨a, b, dd, A, q, c, t⟩]) = chk h0 i d (l ++ [⟨a, b, dd, A', q, c', t⟩])
  | [], i, d => rfl
  | m :: l, i, d => by
    show (if _ then _ else if _ then _ else if _ then _ else if _ then _ else if _ then _ else chk h0 (i + 1) m.d (l ++ [_])) = (if _ then _ else if _ then _ else if _ then _ else if _ then _ else if _ then _ else chk h0 (i + 1) m.d (l ++ [_]))
    rw [chk_last l (i + 1) m.d]
theorem check_last {l : List NM} {a b dd : Int} {A A' : Option Addr} {q : List RM} {c c' : Nat} {t : Str} : check (l ++ [⟨a, b, dd, A, q, c, t⟩]) = check (l ++ [⟨a, b, dd, A', q, c', t⟩]) := by
  have e : hdH (l ++ [⟨a, b, dd, A, q, c, t⟩]) = hdH (l ++ [⟨a, b, dd, A', q, c', t⟩]) := by cases l <;> rfl
  unfold check
  rw [e, chk_last l 0 0, List.length_append, List.length_append]
  rfl
theorem build_Note5 (h n d : Int) (A : Option Addr) (k c : Nat) (t : Str) (w : World) : (Instr.build 54 #[(0, .int .i64 h), (1, .int .i64 n), (2, .int .i64 d), (3, .slice A k c), (4, strV t)]).run Tryd.prog w = .ok (.agg #[.int .i64 h, .int .i64 n, .int .i64 d, .slice A k c, strV t]) w := by kernel_rfl
theorem build_Note0 (w : World) : (Instr.build 54 #[]).run Tryd.prog w = .ok (.agg #[.int .i64 0, .int .i64 0, .int .i64 0, .slice none 0 0, strV []]) w := by kernel_rfl
abbrev noteV (m : NM) : Value := .agg #[.int .i64 m.h, .int .i64 m.n, .int .i64 m.d, .slice m.A m.l.length m.c, strV m.s]
def NextTo (l : List NM) (h d : Int) (q : List RM) (t : Str) (w : World) (e : Ending) (w' : World) : Prop :=
  ∃ v, e = .returned (.tuple #[v, .int .i64 (check (l ++ [⟨h, ((l.length : Nat) : Int), d, none, q, 0, t⟩]))]) ∧ Only NoF w w' ∧
    ((check (l ++ [⟨h, ((l.length : Nat) : Int), d, none, q, 0, t⟩]) ≠ 0 ∧ v = .agg #[.int .i64 0, .int .i64 0, .int .i64 0, .slice none 0 0, strV []]) ∨
     (check (l ++ [⟨h, ((l.length : Nat) : Int), d, none, q, 0, t⟩]) = 0 ∧ ∃ m : NM, v = noteV m ∧ m.h = h ∧ m.n = ((l.length : Nat) : Int) ∧ m.d = d ∧ m.l = q ∧ m.s = t ∧ (KNote w').ok m ∧ SliceOf (geB w.heap.size) 2 KRef.R w' (.slice m.A m.l.length m.c) m.l))
set_option maxRecDepth 20000 in
set_option maxHeartbeats 4000000 in
theorem Next_v_ {w : World} {l : List NM} {A1 : Option Addr} {c1 : Nat} (f1 : NotesV w w (.slice A1 l.length c1) l) {q : List RM} {A2 : Option Addr} {c2 : Nat} (f2 : RefsV w (.slice A2 q.length c2) q) {h d : Int} (hh : I64 h) (hd : I64 d) {t : Str} (ht : t.length ≤ maxLen) (hl : l.length ≤ 1000) (hq : q.length ≤ 1000) : Calls Tryd.prog 53 [.slice A1 l.length c1, .int .i64 h, .int .i64 d, .slice A2 q.length c2, strV t].toArray w (NextTo l h d q t w) := by
  refine calls_start Tryd.func53 rfl rfl ?_
  intro az Hz
  rw [Tryd.ntmps53] at Hz
  refine wp_seq_k fun K1 hK1 => ?_
  -- seal.go:63
  refine wp_region_lit ?_
  refine LAl (v := .agg #[.int .i64 (0), .int .i64 (0), .int .i64 (0), .slice none (0) 0, strV ([])]) Tryd.zeroValue54 Hz rfl rfl ?_
  clear Hz az; intro g2 w3 hg6 hl7 o4 B5 az Hz
  refine L (r_as Hz rfl) Hz rfl ?_
  clear Hz az; intro az Hz
  refine hK1 _ _ ?_
  refine wp_seq_k fun K8 hK8 => ?_
  -- seal.go:64
  refine wp_region_lit ?_
  refine L (r_mv Hz rfl) Hz rfl ?_
  clear Hz az; intro az Hz
  refine L (r_mv Hz rfl) Hz rfl ?_
  clear Hz az; intro az Hz
  refine L (r_lenL Tryd.underlying51 Hz rfl) Hz rfl ?_
  clear Hz az; intro az Hz
  refine L (r_mv Hz rfl) Hz rfl ?_
  clear Hz az; intro az Hz
  refine L (r_mv Hz rfl) Hz rfl ?_
  clear Hz az; intro az Hz
  have h14 := (SliceOf.kp f2 o4 (fun _ _ h => h) (fun _ _ _ _ h => h))
  have k15 := Row.oks KRef h14
  refine LC Hz rfl rfl Tryd.call83 (cloneRefs_v h14 (by omega)) rfl ?_
  rintro e w9 ⟨A11, c12, rfl, r13, o10⟩; refine ⟨_, rfl, ?_⟩
  clear Hz az; intro az Hz
  refine L (r_mv Hz rfl) Hz rfl ?_
  clear Hz az; intro az Hz
  refine L (r_bd (v := .agg #[.int .i64 (h), .int .i64 (((l.length : Nat) : Int)), .int .i64 (d), .slice A11 (q.length) c12, strV (t)]) (build_Note5 _ _ _ _ _ _ _) Hz rfl) Hz rfl ?_
  clear Hz az; intro az Hz
  refine LAl (v := .agg #[.int .i64 (0), .int .i64 (0), .int .i64 (0), .slice none (0) 0, strV ([])]) Tryd.zeroValue54 Hz rfl rfl ?_
  clear Hz az; intro g16 w17 hg20 hl21 o18 B19 az Hz
  refine LSt (cs' := [.int .i64 (h), .int .i64 (((l.length : Nat) : Int)), .int .i64 (d), .slice A11 (q.length) c12, strV (t)]) Tryd.sizeOf54 Hz rfl rfl rfl rfl rfl ⟨rfl, rfl, rfl, rfl, rfl, trivial⟩ B19 rfl rfl fun w22 s23 B24 => ?_
  refine hK8 _ _ ?_
  refine wp_seq_k fun K25 hK25 => ?_
  refine wp_seq_k fun K26 hK26 => ?_
  have O27 : Only NoF w w9 := (Only.trans' o4 o10)
  have O28 : Only NoF w w22 := (o_sg (Only.trans' (Only.trans' o4 o10) o18) s23 (size_only O27) (oneF_ge hg20))
  -- seal.go:65
  refine reg_p NoF 2 [1, 3, 4, 5] (.rd 0 (.rd 2 (.fork 1 (.ex 3 (.ex 4 (.ex 5 (.rd 6 .nil)))) 3 (.ex 1 (.ex 4 (.ex 5 (.rd 6 .nil))))))) (by kernel_rfl) (by kernel_rfl) (fun _ _ _ _ _ h => h) fun w29 o30 => ?_
  have B31 := (Blk.k B24 o30)
  refine Pl.MSP (b := false) (by kernel_rfl) (fun W oW => r_mv Hz rfl) Hz rfl rfl ?_
  clear Hz az; intro az Hz
  refine Pl.MSP (b := false) (by kernel_rfl) (fun W oW => r_ldA Tryd.isAgg54 Tryd.sizeOf54 Hz rfl (Blk.ca (Blk.k B31 oW)) rfl) Hz rfl rfl ?_
  clear Hz az; intro az Hz
  refine wpPl_fork ?_ ?_
  · -- 1 first
    have O38 : Only NoF w w29 := (Only.trans' O28 o30)
    have h39 := (SliceOf.kp f1 O38 (fun _ _ h => h) (fun _ _ _ _ h => h))
    have f37 := notes_up h39 O28
    have k40 := Row.oks (KNote w22) f37
    refine Pl.MSC Hz rfl rfl rfl Tryd.call84 (cloneNotes_v f37 (by omega)) rfl ?_
    rintro e w32 ⟨A34, c35, rfl, r36, o33⟩
    refine ⟨_, rfl, ⟨fun _ => o33, (Only.trans (Only.refl NoF w29) o33 (fun _ h => h.elim))⟩, ?_⟩
    clear Hz az; intro az Hz
    have r41 := (ow_only (ow_k r13 o18) s23 (fun k hk => lt_F (oneF_ge hg20) (Nat.le_refl _) k (ownF_lt r13 k hk)))
    have hr42 := Row.own KRef r41 k15
    obtain ⟨A43, w44, hw, hA, r45, o46⟩ := Row.made (w := w32) (KNote w22) (e := 54) ([(⟨h, ((l.length : Nat) : Int), d, A11, q, c12, t⟩ : NM)] : List NM) (by simp only [List.length_cons, List.length_nil]; unfold maxLen; omega)
    refine Pl.MD (r_bs (z := .agg #[.int .i64 (0), .int .i64 (0), .int .i64 (0), .slice none (0) 0, strV ([])]) (size := 5) (vs := [(0, .agg #[.int .i64 (h), .int .i64 (((l.length : Nat) : Int)), .int .i64 (d), .slice A11 (q.length) c12, strV (t)])]) (cs := List.flatMap (KNote w22).cells [(⟨h, ((l.length : Nat) : Int), d, A11, q, c12, t⟩ : NM)]) Tryd.underlying51 Tryd.sizeOf54 Tryd.zeroValue54 rfl (Fr.evalps Hz rfl) (by kernel_rfl)) Hz rfl rfl ?_ ?_
    · rw [← hw]; exact ⟨fun _ => (Only.trans' o33 o46), (Only.trans (Only.trans (Only.refl NoF w29) o33 (fun _ h => h.elim)) o46 (fun _ h => h.elim))⟩
    rw [← hw, ← hA]; clear Hz az; intro az Hz
    clear hw hA
    have ok47 : ∀ zq ∈ ([(⟨h, ((l.length : Nat) : Int), d, A11, q, c12, t⟩ : NM)] : List NM), (KNote w22).ok zq := by intro zq hx; simp only [List.mem_cons, List.not_mem_nil, or_false] at hx; rcases hx with rfl <;> first | exact ⟨hh, (by show I64 ((l.length : Nat) : Int); unfold I64; omega), hd, (SliceOf.pl hr42), ht⟩
    have r48 := (ow_k r36 o46)
    have h49 := Row.own (KNote w22) r45 ok47
    have h50 := SliceOf.pl h49
    have hb58 : (List.length (l) + List.length ([(⟨h, ((l.length : Nat) : Int), d, A11, q, c12, t⟩ : NM)])) * 64 ≤ 140737488355328 := by simp only [List.length_cons, List.length_nil]; omega
    have O59 : Only NoF w29 w44 := (Only.trans' o33 o46)
    obtain ⟨A51, c52, w53, hr54, r55, o56, al57⟩ := Row.app (P := Tryd.prog) (l := l) (l2 := [(⟨h, ((l.length : Nat) : Int), d, A11, q, c12, t⟩ : NM)]) (KNote w22) elemNote r48 h50 hb58 (by unfold maxLen; omega) (size_only O59)
    refine Pl.MD (r_app hr54 Hz rfl rfl) Hz rfl rfl ?_ ?_
    · exact ⟨fun h => absurd h (by decide), (Only.trans (Only.trans (Only.trans (Only.refl NoF w29) o33 (fun _ h => h.elim)) o46 (fun _ h => h.elim)) o56 (fun k h => .inr (Nat.le_trans (Nat.le_refl _) ((ownF_ge r36) k h))))⟩
    clear Hz az; intro az Hz
    have ok60 : ∀ zq ∈ (l ++ [(⟨h, ((l.length : Nat) : Int), d, A11, q, c12, t⟩ : NM)]), (KNote w22).ok zq := (fun x hx => (List.mem_append.1 hx).elim (k40 x) ((Row.oks (KNote w22) h50) x))
    have h61 := Row.own (KNote w22) r55 ok60
    have h62 := SliceOf.pl h61
    have O63 : Only NoF w22 w53 := (o_sg (Only.trans' (Only.trans' o30 o33) o46) o56 (size_only o30) (ownF_ge r36))
    refine Pl.MSV (v := .int .i64 ((check (l ++ [(⟨h, ((l.length : Nat) : Int), d, A11, q, c12, t⟩ : NM)])))) Hz rfl rfl rfl Tryd.call60 (Check_v (notes_up h62 O63)) rfl (fun w' o' => ⟨fun h => absurd h (by decide), (Only.trans (Only.trans (Only.trans (Only.trans (Only.refl NoF w29) o33 (fun _ h => h.elim)) o46 (fun _ h => h.elim)) o56 (fun k h => .inr (Nat.le_trans (Nat.le_refl _) ((ownF_ge r36) k h)))) o' (fun _ h => h.elim))⟩) fun w64 o65 => ?_
    clear Hz az; intro az Hz
    refine Pl.MSP (b := false) (by kernel_rfl) (fun W oW => r_as Hz rfl) Hz rfl rfl ?_
    clear Hz az; intro az Hz
    refine wpPl_nil ?_
    refine hK26 _ _ ?_
    refine wp_seq_k fun K66 hK66 => ?_
    -- seal.go:65
    refine wp_region_lit ?_
    refine L (r_mv Hz rfl) Hz rfl ?_
    clear Hz az; intro az Hz
    refine L (r_neI Hz rfl rfl) Hz rfl ?_
    clear Hz az; intro az Hz
    refine hK66 _ _ ?_
    refine br Hz rfl (fun hc67 => ?_) (fun hc67 => ?_)
    · -- if0
      have p68 := of_decide_eq_false (nt_t hc67)
      refine wp_seq_k fun K69 hK69 => ?_
      -- seal.go:66
      refine wp_region_lit ?_
      refine L (r_bd (v := .agg #[.int .i64 (0), .int .i64 (0), .int .i64 (0), .slice none (0) 0, strV ([])]) (build_Note0) Hz rfl) Hz rfl ?_
      clear Hz az; intro az Hz
      refine L (r_mv Hz rfl) Hz rfl ?_
      clear Hz az; intro az Hz
      have ne70 : g2 ≠ g16 := (ne_of hl7 (Nat.le_trans (size_only o10) hg20))
      have O71 : Only NoF w3 w29 := (Only.trans' (o_sg (Only.trans' o10 o18) s23 (size_only o10) (oneF_ge hg20)) o30)
      have B72 := (Blk.k (Blk.only (Blk.k (Blk.k (Blk.k (Blk.st (Blk.k (Blk.k B5 o10) o18) s23 ne70) o30) o33) o46) o56 (fun h => absurd ((ownF_ge r36) _ h) (Nat.not_le.2 (Nat.lt_of_lt_of_le hl7 (size_only O71))))) o65)
      refine LSt (cs' := [.int .i64 (0), .int .i64 (0), .int .i64 (0), .slice none (0) 0, strV ([])]) Tryd.sizeOf54 Hz rfl rfl rfl rfl rfl ⟨rfl, rfl, rfl, rfl, rfl, trivial⟩ B72 rfl rfl fun w73 s74 B75 => ?_
      refine L (r_as Hz rfl) Hz rfl ?_
      clear Hz az; intro az Hz
      refine hK69 _ _ ?_
      refine wp_ret ?_
      show bodyPost _ _ _ .ret _ _
      refine ret_of (vs := [.agg #[.int .i64 (0), .int .i64 (0), .int .i64 (0), .slice none (0) 0, strV ([])], .int .i64 ((check (l ++ [(⟨h, ((l.length : Nat) : Int), d, A11, q, c12, t⟩ : NM)])))]) Hz Tryd.results53 ⟨⟨_, rfl, l_ca Tryd.isAgg54 Tryd.sizeOf54 (Blk.ca B75) rfl⟩, rfl, trivial⟩ ?_
      have O76 : Only NoF w w73 := (o_sg (Only.trans' (o_sg (Only.trans' (Only.trans' O38 o33) o46) o56 (size_only O38) (ownF_ge r36)) o65) s74 (Nat.le_refl _) (oneF_ge hg6))
      rw [show check (l ++ [(⟨h, ((l.length : Nat) : Int), d, A11, q, c12, t⟩ : NM)]) = check (l ++ [⟨h, ((l.length : Nat) : Int), d, none, q, 0, t⟩]) from check_last] at *
      exact ⟨_, rfl, O76, .inl ⟨of_decide_eq_false (nt_t hc67), rfl⟩⟩
    · -- else0
      have p77 := of_decide_eq_true (nt_f hc67)
      refine wp_skip ?_
      refine hK25 _ _ ?_
      refine wp_seq_k fun K78 hK78 => ?_
      -- seal.go:68
      refine wp_region_lit ?_
      have O79 := (Only.trans (Only.trans (Only.refl (fun _ => True) w17) s23 (fun _ _ => .inl trivial)) o30 (fun _ _ => .inl trivial))
      have B80 := (Blk.k (Blk.only (Blk.k (Blk.k B31 o33) o46) o56 (fun h => absurd ((ownF_ge r36) _ h) (Nat.not_le.2 (Nat.lt_of_lt_of_le hl21 (size_only O79))))) o65)
      refine L (r_ldA Tryd.isAgg54 Tryd.sizeOf54 Hz rfl (Blk.ca B80) rfl) Hz rfl ?_
      clear Hz az; intro az Hz
      have ne81 : g2 ≠ g16 := (ne_of hl7 (Nat.le_trans (size_only o10) hg20))
      have O82 : Only NoF w3 w29 := (Only.trans' (o_sg (Only.trans' o10 o18) s23 (size_only o10) (oneF_ge hg20)) o30)
      have B83 := (Blk.k (Blk.only (Blk.k (Blk.k (Blk.k (Blk.st (Blk.k (Blk.k B5 o10) o18) s23 ne81) o30) o33) o46) o56 (fun h => absurd ((ownF_ge r36) _ h) (Nat.not_le.2 (Nat.lt_of_lt_of_le hl7 (size_only O82))))) o65)
      refine LSt (cs' := [.int .i64 (h), .int .i64 (((l.length : Nat) : Int)), .int .i64 (d), .slice A11 (q.length) c12, strV (t)]) Tryd.sizeOf54 Hz rfl rfl rfl rfl rfl ⟨rfl, rfl, rfl, rfl, rfl, trivial⟩ B83 rfl rfl fun w84 s85 B86 => ?_
      refine L (r_as Hz rfl) Hz rfl ?_
      clear Hz az; intro az Hz
      refine hK78 _ _ ?_
      refine wp_ret ?_
      show bodyPost _ _ _ .ret _ _
      refine ret_of (vs := [.agg #[.int .i64 (h), .int .i64 (((l.length : Nat) : Int)), .int .i64 (d), .slice A11 (q.length) c12, strV (t)], .int .i64 (0)]) Hz Tryd.results53 ⟨⟨_, rfl, l_ca Tryd.isAgg54 Tryd.sizeOf54 (Blk.ca B86) rfl⟩, rfl, trivial⟩ ?_
      have O87 : Only NoF w w84 := (o_sg (Only.trans' (o_sg (Only.trans' (Only.trans' O38 o33) o46) o56 (size_only O38) (ownF_ge r36)) o65) s85 (Nat.le_refl _) (oneF_ge hg6))
      rw [show check (l ++ [(⟨h, ((l.length : Nat) : Int), d, A11, q, c12, t⟩ : NM)]) = check (l ++ [⟨h, ((l.length : Nat) : Int), d, none, q, 0, t⟩]) from check_last] at *
      have hz0 := of_decide_eq_true (nt_f hc67)
      have r88 := (ow_only (ow_k (ow_only (ow_k (ow_k (ow_k r41 o30) o33) o46) o56 (ow_ne (ow_k (ow_k (ow_k r41 o30) o33) o46) r48 (by decide))) o65) s85 (fun k hk => ge_F (oneF_lt hl7) (Nat.le_refl _) k (ownF_ge (ow_k (ow_only (ow_k (ow_k (ow_k r41 o30) o33) o46) o56 (ow_ne (ow_k (ow_k (ow_k r41 o30) o33) o46) r48 (by decide))) o65) k hk)))
      exact ⟨noteV (⟨h, ((l.length : Nat) : Int), d, A11, q, c12, t⟩ : NM), by rw [hz0]; rfl, O87, .inr ⟨hz0, (⟨h, ((l.length : Nat) : Int), d, A11, q, c12, t⟩ : NM), rfl, rfl, rfl, rfl, rfl, rfl, ⟨hh, (by show I64 ((l.length : Nat) : Int); unfold I64; omega), hd, (SliceOf.pl (Row.own KRef r88 k15)), ht⟩, (SliceOf.sup (Row.own KRef r88 k15) (fun k hk => Nat.le_trans (size_only o4) hk))⟩⟩
  · -- 3 first
    have r89 := (ow_only (ow_k r13 o18) s23 (fun k hk => lt_F (oneF_ge hg20) (Nat.le_refl _) k (ownF_lt r13 k hk)))
    have hr90 := Row.own KRef r89 k15
    obtain ⟨A91, w92, hw, hA, r93, o94⟩ := Row.made (w := w29) (KNote w22) (e := 54) ([(⟨h, ((l.length : Nat) : Int), d, A11, q, c12, t⟩ : NM)] : List NM) (by simp only [List.length_cons, List.length_nil]; unfold maxLen; omega)
    refine Pl.MD (r_bs (z := .agg #[.int .i64 (0), .int .i64 (0), .int .i64 (0), .slice none (0) 0, strV ([])]) (size := 5) (vs := [(0, .agg #[.int .i64 (h), .int .i64 (((l.length : Nat) : Int)), .int .i64 (d), .slice A11 (q.length) c12, strV (t)])]) (cs := List.flatMap (KNote w22).cells [(⟨h, ((l.length : Nat) : Int), d, A11, q, c12, t⟩ : NM)]) Tryd.underlying51 Tryd.sizeOf54 Tryd.zeroValue54 rfl (Fr.evalps Hz rfl) (by kernel_rfl)) Hz rfl rfl ?_ ?_
    · rw [← hw]; exact ⟨fun _ => o94, (Only.trans (Only.refl NoF w29) o94 (fun _ h => h.elim))⟩
    rw [← hw, ← hA]; clear Hz az; intro az Hz
    clear hw hA
    have ok95 : ∀ zq ∈ ([(⟨h, ((l.length : Nat) : Int), d, A11, q, c12, t⟩ : NM)] : List NM), (KNote w22).ok zq := by intro zq hx; simp only [List.mem_cons, List.not_mem_nil, or_false] at hx; rcases hx with rfl <;> first | exact ⟨hh, (by show I64 ((l.length : Nat) : Int); unfold I64; omega), hd, (SliceOf.pl hr90), ht⟩
    have O102 : Only NoF w w92 := (Only.trans' (Only.trans' O28 o30) o94)
    have h103 := (SliceOf.kp f1 O102 (fun _ _ h => h) (fun _ _ _ _ h => h))
    have f101 := notes_up h103 O28
    have k104 := Row.oks (KNote w22) f101
    refine Pl.MSC Hz rfl rfl rfl Tryd.call84 (cloneNotes_v f101 (by omega)) rfl ?_
    rintro e w96 ⟨A98, c99, rfl, r100, o97⟩
    refine ⟨_, rfl, ⟨fun _ => (Only.trans' o94 o97), (Only.trans (Only.trans (Only.refl NoF w29) o94 (fun _ h => h.elim)) o97 (fun _ h => h.elim))⟩, ?_⟩
    clear Hz az; intro az Hz
    have h105 := Row.own (KNote w22) r93 ok95
    have h106 := (SliceOf.kp h105 o97 (fun _ _ h => h) (fun _ _ _ _ h => h))
    have h107 := SliceOf.pl h106
    have hb115 : (List.length (l) + List.length ([(⟨h, ((l.length : Nat) : Int), d, A11, q, c12, t⟩ : NM)])) * 64 ≤ 140737488355328 := by simp only [List.length_cons, List.length_nil]; omega
    obtain ⟨A108, c109, w110, hr111, r112, o113, al114⟩ := Row.app (P := Tryd.prog) (l := l) (l2 := [(⟨h, ((l.length : Nat) : Int), d, A11, q, c12, t⟩ : NM)]) (KNote w22) elemNote r100 h107 hb115 (by unfold maxLen; omega) (size_only o97)
    refine Pl.MD (r_app hr111 Hz rfl rfl) Hz rfl rfl ?_ ?_
    · exact ⟨fun h => absurd h (by decide), (Only.trans (Only.trans (Only.trans (Only.refl NoF w29) o94 (fun _ h => h.elim)) o97 (fun _ h => h.elim)) o113 (fun k h => .inr (Nat.le_trans (size_only o94) ((ownF_ge r100) k h))))⟩
    clear Hz az; intro az Hz
    have ok116 : ∀ zq ∈ (l ++ [(⟨h, ((l.length : Nat) : Int), d, A11, q, c12, t⟩ : NM)]), (KNote w22).ok zq := (fun x hx => (List.mem_append.1 hx).elim (k104 x) ((Row.oks (KNote w22) h107) x))
    have h117 := Row.own (KNote w22) r112 ok116
    have h118 := SliceOf.pl h117
    have O119 : Only NoF w22 w92 := (Only.trans' o30 o94)
    have O120 : Only NoF w22 w110 := (o_sg (Only.trans' (Only.trans' o30 o94) o97) o113 (size_only O119) (ownF_ge r100))
    refine Pl.MSV (v := .int .i64 ((check (l ++ [(⟨h, ((l.length : Nat) : Int), d, A11, q, c12, t⟩ : NM)])))) Hz rfl rfl rfl Tryd.call60 (Check_v (notes_up h118 O120)) rfl (fun w' o' => ⟨fun h => absurd h (by decide), (Only.trans (Only.trans (Only.trans (Only.trans (Only.refl NoF w29) o94 (fun _ h => h.elim)) o97 (fun _ h => h.elim)) o113 (fun k h => .inr (Nat.le_trans (size_only o94) ((ownF_ge r100) k h)))) o' (fun _ h => h.elim))⟩) fun w121 o122 => ?_
    clear Hz az; intro az Hz
    refine Pl.MSP (b := false) (by kernel_rfl) (fun W oW => r_as Hz rfl) Hz rfl rfl ?_
    clear Hz az; intro az Hz
    refine wpPl_nil ?_
    refine hK26 _ _ ?_
    refine wp_seq_k fun K123 hK123 => ?_
    -- seal.go:65
    refine wp_region_lit ?_
    refine L (r_mv Hz rfl) Hz rfl ?_
    clear Hz az; intro az Hz
    refine L (r_neI Hz rfl rfl) Hz rfl ?_
    clear Hz az; intro az Hz
    refine hK123 _ _ ?_
    refine br Hz rfl (fun hc124 => ?_) (fun hc124 => ?_)
    · -- if0
      have p125 := of_decide_eq_false (nt_t hc124)
      refine wp_seq_k fun K126 hK126 => ?_
      -- seal.go:66
      refine wp_region_lit ?_
      refine L (r_bd (v := .agg #[.int .i64 (0), .int .i64 (0), .int .i64 (0), .slice none (0) 0, strV ([])]) (build_Note0) Hz rfl) Hz rfl ?_
      clear Hz az; intro az Hz
      refine L (r_mv Hz rfl) Hz rfl ?_
      clear Hz az; intro az Hz
      have ne127 : g2 ≠ g16 := (ne_of hl7 (Nat.le_trans (size_only o10) hg20))
      have O128 : Only NoF w3 w92 := (Only.trans' (Only.trans' (o_sg (Only.trans' o10 o18) s23 (size_only o10) (oneF_ge hg20)) o30) o94)
      have B129 := (Blk.k (Blk.only (Blk.k (Blk.k (Blk.k (Blk.st (Blk.k (Blk.k B5 o10) o18) s23 ne127) o30) o94) o97) o113 (fun h => absurd ((ownF_ge r100) _ h) (Nat.not_le.2 (Nat.lt_of_lt_of_le hl7 (size_only O128))))) o122)
      refine LSt (cs' := [.int .i64 (0), .int .i64 (0), .int .i64 (0), .slice none (0) 0, strV ([])]) Tryd.sizeOf54 Hz rfl rfl rfl rfl rfl ⟨rfl, rfl, rfl, rfl, rfl, trivial⟩ B129 rfl rfl fun w130 s131 B132 => ?_
      refine L (r_as Hz rfl) Hz rfl ?_
      clear Hz az; intro az Hz
      refine hK126 _ _ ?_
      refine wp_ret ?_
      show bodyPost _ _ _ .ret _ _
      refine ret_of (vs := [.agg #[.int .i64 (0), .int .i64 (0), .int .i64 (0), .slice none (0) 0, strV ([])], .int .i64 ((check (l ++ [(⟨h, ((l.length : Nat) : Int), d, A11, q, c12, t⟩ : NM)])))]) Hz Tryd.results53 ⟨⟨_, rfl, l_ca Tryd.isAgg54 Tryd.sizeOf54 (Blk.ca B132) rfl⟩, rfl, trivial⟩ ?_
      have O133 : Only NoF w w130 := (o_sg (Only.trans' (o_sg (Only.trans' O102 o97) o113 (size_only O102) (ownF_ge r100)) o122) s131 (Nat.le_refl _) (oneF_ge hg6))
      rw [show check (l ++ [(⟨h, ((l.length : Nat) : Int), d, A11, q, c12, t⟩ : NM)]) = check (l ++ [⟨h, ((l.length : Nat) : Int), d, none, q, 0, t⟩]) from check_last] at *
      exact ⟨_, rfl, O133, .inl ⟨of_decide_eq_false (nt_t hc124), rfl⟩⟩
    · -- else0
      have p134 := of_decide_eq_true (nt_f hc124)
      refine wp_skip ?_
      refine hK25 _ _ ?_
      refine wp_seq_k fun K135 hK135 => ?_
      -- seal.go:68
      refine wp_region_lit ?_
      have O136 := (Only.trans (Only.trans (Only.trans (Only.refl (fun _ => True) w17) s23 (fun _ _ => .inl trivial)) o30 (fun _ _ => .inl trivial)) o94 (fun _ _ => .inl trivial))
      have B137 := (Blk.k (Blk.only (Blk.k (Blk.k B31 o94) o97) o113 (fun h => absurd ((ownF_ge r100) _ h) (Nat.not_le.2 (Nat.lt_of_lt_of_le hl21 (size_only O136))))) o122)
      refine L (r_ldA Tryd.isAgg54 Tryd.sizeOf54 Hz rfl (Blk.ca B137) rfl) Hz rfl ?_
      clear Hz az; intro az Hz
      have ne138 : g2 ≠ g16 := (ne_of hl7 (Nat.le_trans (size_only o10) hg20))
      have O139 : Only NoF w3 w92 := (Only.trans' (Only.trans' (o_sg (Only.trans' o10 o18) s23 (size_only o10) (oneF_ge hg20)) o30) o94)
      have B140 := (Blk.k (Blk.only (Blk.k (Blk.k (Blk.k (Blk.st (Blk.k (Blk.k B5 o10) o18) s23 ne138) o30) o94) o97) o113 (fun h => absurd ((ownF_ge r100) _ h) (Nat.not_le.2 (Nat.lt_of_lt_of_le hl7 (size_only O139))))) o122)
      refine LSt (cs' := [.int .i64 (h), .int .i64 (((l.length : Nat) : Int)), .int .i64 (d), .slice A11 (q.length) c12, strV (t)]) Tryd.sizeOf54 Hz rfl rfl rfl rfl rfl ⟨rfl, rfl, rfl, rfl, rfl, trivial⟩ B140 rfl rfl fun w141 s142 B143 => ?_
      refine L (r_as Hz rfl) Hz rfl ?_
      clear Hz az; intro az Hz
      refine hK135 _ _ ?_
      refine wp_ret ?_
      show bodyPost _ _ _ .ret _ _
      refine ret_of (vs := [.agg #[.int .i64 (h), .int .i64 (((l.length : Nat) : Int)), .int .i64 (d), .slice A11 (q.length) c12, strV (t)], .int .i64 (0)]) Hz Tryd.results53 ⟨⟨_, rfl, l_ca Tryd.isAgg54 Tryd.sizeOf54 (Blk.ca B143) rfl⟩, rfl, trivial⟩ ?_
      have O144 : Only NoF w w141 := (o_sg (Only.trans' (o_sg (Only.trans' O102 o97) o113 (size_only O102) (ownF_ge r100)) o122) s142 (Nat.le_refl _) (oneF_ge hg6))
      rw [show check (l ++ [(⟨h, ((l.length : Nat) : Int), d, A11, q, c12, t⟩ : NM)]) = check (l ++ [⟨h, ((l.length : Nat) : Int), d, none, q, 0, t⟩]) from check_last] at *
      have hz0 := of_decide_eq_true (nt_f hc124)
      have r145 := (ow_only (ow_k (ow_only (ow_k (ow_k (ow_k r89 o30) o94) o97) o113 (ow_ne (ow_k (ow_k (ow_k r89 o30) o94) o97) r100 (by decide))) o122) s142 (fun k hk => ge_F (oneF_lt hl7) (Nat.le_refl _) k (ownF_ge (ow_k (ow_only (ow_k (ow_k (ow_k r89 o30) o94) o97) o113 (ow_ne (ow_k (ow_k (ow_k r89 o30) o94) o97) r100 (by decide))) o122) k hk)))
      exact ⟨noteV (⟨h, ((l.length : Nat) : Int), d, A11, q, c12, t⟩ : NM), by rw [hz0]; rfl, O144, .inr ⟨hz0, (⟨h, ((l.length : Nat) : Int), d, A11, q, c12, t⟩ : NM), rfl, rfl, rfl, rfl, rfl, rfl, ⟨hh, (by show I64 ((l.length : Nat) : Int); unfold I64; omega), hd, (SliceOf.pl (Row.own KRef r145 k15)), ht⟩, (SliceOf.sup (Row.own KRef r145 k15) (fun k hk => Nat.le_trans (size_only o4) hk))⟩⟩

theorem Next_v {w : World} {v v2 : Value} {l : List NM} (f1 : NotesV w w v l) {q : List RM} (f2 : RefsV w v2 q) {h d : Int} (hh : I64 h) (hd : I64 d) {t : Str} (ht : t.length ≤ maxLen) (hl : l.length ≤ 1000) (hq : q.length ≤ 1000) : Calls Tryd.prog 53 #[v, .int .i64 h, .int .i64 d, v2, strV t] w (NextTo l h d q t w) := by
  obtain ⟨A1, c1, rfl, _⟩ := SliceOf.shape f1
  obtain ⟨A2, c2, rfl, _⟩ := SliceOf.shape f2
  exact Next_v_ f1 f2 hh hd ht hl hq
end Go.Proofs.YtgmnoianhonihaaDoor
