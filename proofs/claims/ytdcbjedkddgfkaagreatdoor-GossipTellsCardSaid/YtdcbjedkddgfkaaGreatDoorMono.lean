/-
  No step of the machine draws back: what a call leaves has drawn as much as what it found, or more. No condition.
-/
import GoSem.Step
import Derived.RunT
import Derived.Lone
import Derived.Calls
namespace Go.Proofs.YtdcbjedkddgfkaaGreatDoor
set_option linter.unusedVariables false
set_option linter.unusedSimpArgs false
set_option linter.unusedSectionVars false
open Go
theorem ask_up {α : Type} : ∀ (k : Ask α) (w : World), w.drawn ≤ (w.ask k).2.drawn
 | .done a, w => Nat.le_refl _
 | .ask what range k, w => by
  simp only [World.ask]
  split
  · exact ask_up _ _
  · exact Nat.le_trans (Nat.le_succ _) (ask_up (k _) { w with drawn := w.drawn + 1 })
theorem sys_up (w : World) (c : Sys) : w.drawn ≤ (w.sys c).2.drawn := by
 unfold World.sys
 have h := ask_up (Kernel.perform c w.os) w
 split
 · exact Nat.le_refl _
 · rename_i e; rw [e] at h; exact h
theorem view_up {p : Program} {w : World} {a k : Addr} {u : TypeId} {v : Value} {b : Bool} {r : World × List Addr} (h : w.viewStore p a u k v b = .ok r) : r.1.drawn = w.drawn := by
 unfold World.viewStore at h
 simp only [bind, Except.bind, pure, Except.pure, throw, throwThe, MonadExceptOf.throw] at h
 repeat' first
  | (cases h; done)
  | (injection h with h; rw [← h]; done)
  | split at h
theorem far_up {p : Program} {w : World} {a : Addr} {v : Value} {b : Bool} {r : World × List Addr} (h : w.farStore p a v b = .ok r) : r.1.drawn = w.drawn := by
 unfold World.farStore at h
 repeat' first
  | (cases h; done)
  | (rename_i e; injection h with h; rw [← h]; exact view_up e)
  | split at h
def ResW {α : Type} : Result α → World
 | .ok _ w => w
 | .halt _ w => w
theorem run_up {α : Type} (p : Program) : ∀ (s : Sem α) (w : World), w.drawn ≤ (ResW (s.run p w)).drawn := by
 intro s
 induction s with
 | pure a => intro w; exact Nat.le_refl _
 | load m a k ih =>
  intro w
  simp only [Sem.run]
  split
  · exact ih _ _
  · split
    · exact ih _ _
    · exact Nat.le_refl _
 | store m a v k ih =>
  intro w
  have key : w.drawn ≤ (ResW (match w.cell? a with
   | some _ => if w.frozen? a then .halt (.unsupported (.unsafePointer "a write to bytes that a string shares")) w else k.run p (w.setCell a v)
   | none => match w.farStore p a v (m == .atomic) with
    | .ok (w, _) => k.run p w
    | .error h => .halt h w)).drawn := by
   split
   · split
     · exact Nat.le_refl _
     · have := ih (w.setCell a v)
       unfold World.setCell at this ⊢
       repeat' split at this
       all_goals simp_all
   · split
     · rename_i e; rw [← far_up e]; exact ih _
     · exact Nat.le_refl _
  cases v <;> first
   | exact Nat.le_refl _
   | exact key
 | new o k ih => intro w; simp only [Sem.run]; exact ih _ { w with heap := w.heap.push o }
 | shape r k ih => intro w; simp only [Sem.run]; exact ih _ _
 | freeze a n k ih =>
  intro w; simp only [Sem.run]
  have := ih (w.freeze a n)
  unfold World.freeze at this ⊢
  split <;> simp_all
 | frozen a k ih => intro w; simp only [Sem.run]; exact ih _ _
 | getObj r k ih =>
  intro w
  simp only [Sem.run]
  split
  · exact Nat.le_refl _
  · exact ih _ _
  · exact Nat.le_refl _
 | setObj r o k ih =>
  intro w
  simp only [Sem.run]
  split
  · exact Nat.le_refl _
  · exact ih { w with heap := w.heap.setIfInBounds r o }
  · exact Nat.le_refl _
 | choose q k ih =>
  intro w
  simp only [Sem.run]
  split
  · exact ih _ _
  · exact Nat.le_trans (Nat.le_succ _) (ih _ { w with drawn := w.drawn + 1 })
 | sys c k ih => intro w; simp only [Sem.run]; exact Nat.le_trans (sys_up w c) (ih _ _)
 | program k ih => intro w; simp only [Sem.run]; exact ih _ _
 | mark m k ih => intro w; simp only [Sem.run]; exact ih _
 | halt h => intro w; exact Nat.le_refl _
theorem run_ok {α : Type} {p : Program} {s : Sem α} {w w' : World} {a : α} (h : s.run p w = .ok a w') : w.drawn ≤ w'.drawn := by
 have := run_up p s w
 rw [h] at this; exact this
theorem run_halt {α : Type} {p : Program} {s : Sem α} {w w' : World} {a : Halt} (h : s.run p w = .halt a w') : w.drawn ≤ w'.drawn := by
 have := run_up p s w
 rw [h] at this; exact this
theorem runT_ok {α : Type} {p : Program} {s : Sem α} {w w' : World} {es es' : Array Event} {a : α} (h : s.runT p w es = (.ok a w', es')) : w.drawn ≤ w'.drawn := by
 refine run_ok (p := p) (s := s) (a := a) ?_
 rw [← Sem.runT_fst p s w es, h]
theorem runT_halt {α : Type} {p : Program} {s : Sem α} {w w' : World} {es es' : Array Event} {a : Halt} (h : s.runT p w es = (.halt a w', es')) : w.drawn ≤ w'.drawn := by
 refine run_halt (p := p) (s := s) (a := a) ?_
 rw [← Sem.runT_fst p s w es, h]
def StW : GStep → World
 | .go _ w _ => w
 | .comm _ _ _ _ w _ => w
 | .spawn _ _ w _ => w
 | .count _ w _ => w
 | .timer _ _ w _ => w
 | .alone _ _ w _ => w
 | .newcoro _ _ _ w _ => w
 | .coroswitch _ _ _ w _ => w
 | .collect _ w _ => w
 | .watch _ w _ => w
 | .ended _ w _ => w
theorem after_w (es : Array Event) (s : GStep) : StW (s.after es) = StW s := by cases s <;> rfl
def Up (w : World) (s : GStep) : Prop := w.drawn ≤ (StW s).drawn
theorem up_after {w : World} {es : Array Event} {s : GStep} (h : Up w s) : Up w (s.after es) := by unfold Up; rw [after_w]; exact h
theorem up_ret (p : Program) (main : Bool) (fr : Frame) (callers : List Frame) (dying : Option Dying) (v : Value) (w : World) : Up w (doReturn p main fr callers dying v w) := by
 unfold doReturn
 repeat' first
  | exact Nat.le_refl _
  | split
theorem up_with (w : World) (fd : Nat) (text : ByteArray) (o : Outcome) : Up w (endWith w fd text o) := by
 unfold endWith
 have h := sys_up w (.write fd text)
 simp only []
 repeat' first
  | (rename_i e; rw [e] at h; exact h)
  | (rename_i e _; rw [e] at h; exact h)
  | split
theorem up_throw (fr : Frame) (m : String) (w : World) : Up w (endThrow fr m w) := Nat.le_refl _
theorem up_printing (p : Program) (fr : Frame) (v : Value) (w : World) : Up w (endPrinting p fr v w) := by
 unfold endPrinting
 simp only []
 repeat' first
  | exact Nat.le_refl _
  | split
theorem up_fatal (p : Program) (fr : Frame) (callers : List Frame) (dying : Option Dying) (m : String) (w : World) : Up w (endFatal p fr callers dying m w) := by
 unfold endFatal
 simp only []
 split
 · rename_i e; exact run_ok e
 · rename_i e; exact run_halt e
 · rename_i e; exact run_halt e
theorem up_writeOn (p : Program) (fr : Frame) (d : Dying) (f : Fatal) (w : World) : Up w (writeOn p fr d f w) := by
 unfold writeOn
 simp only []
 split
 · exact Nat.le_refl _
 · split
   · rename_i e; exact runT_ok e
   · rename_i e; exact runT_halt e
   · rename_i e; exact runT_halt e
   · rename_i e; exact runT_halt e
theorem up_die (p : Program) (fr : Frame) (d : Dying) (w : World) : Up w (die p fr d w) := by
 unfold die
 simp only []
 split
 · exact up_writeOn _ _ _ _ _
 · split
   · split
     · exact Nat.le_refl _
     · exact up_with _ _ _ _
   · split
     · exact Nat.le_refl _
     · split
       · rename_i e; exact run_ok e
       · rename_i e; exact run_halt e
     · refine up_after ?_
       generalize hr : Sem.runT p _ w #[] = r
       obtain ⟨r, es⟩ := r
       cases r with
       | ok a w' =>
        have h := runT_ok hr
        cases a <;> simp only [] <;> repeat' first
         | exact h
         | exact Nat.le_refl _
         | (rename_i e; cases e; done)
         | (rename_i e; cases e; exact h)
         | split
       | halt a w' =>
        have h := runT_halt hr
        cases a <;> simp only [] <;> repeat' first
         | exact h
         | exact Nat.le_refl _
         | exact Nat.le_trans h (up_printing _ _ _ _)
         | (rename_i e; cases e; done)
         | split
     · exact Nat.le_refl _
theorem up_deferred (p : Program) (fr : Frame) (callers : List Frame) (dying : Option Dying) (d : Deferred) (w : World) : Up w (callDeferred p fr callers dying d w) := by
 unfold callDeferred
 generalize hr : Sem.runT p (invoke d.target d.args) w #[] = r
 obtain ⟨r, es⟩ := r
 simp only []
 cases r with
 | ok a w' =>
  have h := runT_ok hr
  clear hr
  rcases a with _ | _ | _ | _ | _ | _ | _ | _ | _ | _ | _ | _ | ⟨_, b⟩ | _ | _ | ⟨b, _⟩ | _ | _ | _ <;> try cases b
  all_goals (repeat' first
   | exact h
   | exact Nat.le_refl _
   | exact up_after h
   | (refine up_after ?_; simp only [])
   | split)
 | halt a w' =>
  have h := runT_halt hr
  clear hr
  cases a
  all_goals (repeat' first
   | exact h
   | exact Nat.le_refl _
   | exact up_after h
   | exact Nat.le_trans h (up_fatal _ _ _ _ _ _)
   | exact Nat.le_trans h (up_throw _ _ _)
   | exact up_after (Nat.le_trans h (up_fatal _ _ _ _ _ _))
   | exact up_after (Nat.le_trans h (up_throw _ _ _))
   | (refine up_after ?_; simp only [])
   | split)
theorem up_unwind (p : Program) (main : Bool) (fr : Frame) (callers : List Frame) (dying : Option Dying) (w : World) : Up w (unwind p main fr callers dying w) := by
 unfold unwind
 split
 · simp only []
   refine up_after ?_
   generalize hr : Sem.runT p _ w #[] = r
   obtain ⟨r, es⟩ := r
   cases r with
   | ok a w' => exact runT_ok hr
   | halt a w' => exact runT_halt hr
 · exact up_deferred _ _ _ _ _ _
 · split
   · exact Nat.le_refl _
   · repeat' first
      | exact Nat.le_refl _
      | exact up_printing _ _ _ _
      | (rename_i e; exact run_ok e)
      | (rename_i e; exact run_halt e)
      | split
   · split
     · exact up_ret _ _ _ _ _ _ _
     · simp only []
       refine up_after ?_
       generalize hr : Sem.runT p _ w #[] = r
       obtain ⟨r, es⟩ := r
       cases r with
       | ok a w' => exact Nat.le_trans (runT_ok hr) (up_ret _ _ _ _ _ _ _)
       | halt a w' =>
        have h := runT_halt hr
        cases a <;> exact h
theorem up_early (p : Program) (fr : Frame) (callers : List Frame) (dying : Option Dying) (g : Nat) (w : World) : Up w (early p fr callers dying g w) := by
 have key : ∀ w' : World, w.drawn ≤ w'.drawn → Up w (match w'.heap[g]? with
  | some (.pending c elem) =>
   .go { frame := fr, callers, status := .running, dying } { w' with heap := w'.heap.setIfInBounds g (.cells c elem) }
  | _ => .ended (.stuck "early: the variable does not wait" (fr.pos p)) w') := by
  intro w' h
  split <;> exact h
 unfold early
 simp only []
 repeat' first
  | exact key _ (Nat.le_refl _)
  | exact Nat.le_refl _
  | (rename_i e; exact key _ (run_ok e))
  | (rename_i e; exact run_ok e)
  | (rename_i e; exact run_halt e)
  | (rename_i e _; exact run_ok e)
  | split
theorem up_apply (p : Program) (l : Bool) (fr : Frame) (callers : List Frame) (dying : Option Dying) (s : Sem Next) (w : World) : Up w (stepG.apply p l fr callers dying s w) := by
 unfold stepG.apply
 have hr : ∀ r es, (if l = true then s.runT p w #[] else (s.run p w, #[])) = (r, es) → w.drawn ≤ (ResW r).drawn := by
  intro r es h
  split at h
  · have e : _ = r := congrArg Prod.fst h
    rw [← e, Sem.runT_fst]; exact run_up p s w
  · have e : _ = r := congrArg Prod.fst h
    rw [← e]; exact run_up p s w
 simp only []
 generalize (if l = true then s.runT p w #[] else (s.run p w, #[])) = q at hr ⊢
 obtain ⟨r, es⟩ := q
 have h := hr r es rfl
 clear hr
 simp only []
 refine up_after ?_
 cases r with
 | ok a w' =>
  change w.drawn ≤ w'.drawn at h
  cases a <;> (try simp only []) <;> repeat' first
   | exact h
   | exact Nat.le_trans h (up_throw _ _ _)
   | split
 | halt a w' =>
  change w.drawn ≤ w'.drawn at h
  cases a
  case unsupported u =>
   cases u <;> (try simp only []) <;> repeat' first
    | exact h
    | exact Nat.le_trans h (up_early _ _ _ _ _ _)
    | split
  all_goals ((try simp only []) <;> repeat' first
   | exact h
   | exact Nat.le_trans h (up_fatal _ _ _ _ _ _)
   | exact Nat.le_trans h (up_throw _ _ _)
   | split)
theorem up_oper (p : Program) (l : Bool) (fr : Frame) (callers : List Frame) (dying : Option Dying) (w : World) : Up w (stepG.oper p l fr callers dying w) := by
 unfold stepG.oper
 repeat' first
  | exact Nat.le_refl _
  | exact up_apply _ _ _ _ _ _ _
  | split
theorem runT_ok' {α : Type} {p : Program} {s : Sem α} {w w' : World} {es : Array Event} {a : α} (h : (s.runT p w es).1 = .ok a w') : w.drawn ≤ w'.drawn := run_ok ((Sem.runT_fst p s w es).symm.trans h)
theorem runT_halt' {α : Type} {p : Program} {s : Sem α} {w w' : World} {es : Array Event} {a : Halt} (h : (s.runT p w es).1 = .halt a w') : w.drawn ≤ w'.drawn := run_halt ((Sem.runT_fst p s w es).symm.trans h)
theorem up_elim {α : Type} {w : World} {o : Option α} {A : GStep} {B : α → GStep} (ha : Up w A) (hb : ∀ k, Up w (B k)) : Up w (o.elim A B) := by
 cases o with
 | none => exact ha
 | some k => exact hb k
theorem up_exec (p : Program) (main l : Bool) (fr : Frame) (callers : List Frame) (dying : Option Dying) (w : World) : Up w (stepG.exec p main l fr callers dying w) := by
 unfold stepG.exec
 simp only []
 repeat' first
  | exact Nat.le_refl _
  | exact up_apply _ _ _ _ _ _ _
  | exact up_oper _ _ _ _ _ _
  | (rename_i e; exact run_ok e)
  | (rename_i e; exact run_halt e)
  | (rename_i e; exact up_after (Nat.le_trans (runT_ok' e) (up_ret _ _ _ _ _ _ _)))
  | (rename_i e; exact up_after (Nat.le_trans (runT_ok' e) (up_apply _ _ _ _ _ _ _)))
  | (rename_i e; exact up_after (runT_ok' e))
  | (rename_i e; exact up_after (runT_halt' e))
  | (refine up_elim ?_ fun _ => ?_)
  | split
theorem up_stepG (p : Program) (main : Bool) (g : Goroutine) (w : World) (l : Bool) : Up w (stepG p main g w l) := by
 unfold stepG
 simp only []
 split
 · exact up_die _ _ _ _
 · exact up_exec _ _ _ _ _ _ _
 · exact up_unwind _ _ _ _ _ _
theorem up_comm (p : Program) (rest : Rest) (gs : Array Goroutine) (i : Nat) (g : Goroutine) (cases : Array CommCase) (blocking : Bool)
 (shape : CommShape) (w : World) (m' : Machine) (h : (communicate p rest gs i g cases blocking shape w).1 = .next m') : w.drawn ≤ m'.world.drawn := by
 have key : ∀ w', waitingAt rest cases w = some w' → w.drawn ≤ w'.drawn := by
  intro w' h
  unfold waitingAt at h
  repeat' first
   | (cases h; done)
   | (injection h with h; rw [← h]; exact Nat.le_refl _)
   | split at h
 unfold communicate at h
 simp only [] at h
 split at h
 · cases h
 · split at h
   · split at h
     · split at h
       · rename_i e; cases h; exact key _ e
       · cases h
     · cases h; exact Nat.le_refl _
   · split at h
     · cases h
     · rename_i e
       refine Nat.le_trans (run_ok e) ?_
       clear e key
       repeat' first
        | (cases h; done)
        | (cases h; exact Nat.le_refl _)
        | (rename_i e; cases h; have k := run_ok e; exact k)
        | (rename_i e _ _ _; cases h; have k := run_ok e; exact k)
        | (rename_i e _ _; cases h; have k := run_ok e; exact k)
        | split at h
theorem up_look (p : Program) (gs : Array Goroutine) (rest : Rest) (w : World) (m' : Machine) (h : look p gs rest w = .next m') : w.drawn ≤ m'.world.drawn := by
 unfold look at h
 simp only [] at h
 repeat' first
  | (simp at h; done)
  | (rename_i e _ _; cases h; have k := run_ok e; exact k)
  | split at h
theorem up_serve (p : Program) (m m' : Machine) (k : Nat) (h : serve p m k = .next m') : m.world.drawn ≤ m'.world.drawn := by
 unfold serve at h
 simp only [] at h
 repeat' first
  | (simp at h; done)
  | (simp only [Stepped.next.injEq] at h; subst h; exact Nat.le_refl _)
  | split at h
theorem up_timer (m : Machine) (op : TimerOp) (v : Value) (m' : Machine) (h : timerOp m op = .ok (v, m')) : m'.world.drawn = m.world.drawn := by
 have hop : ∀ var m2, timerOp.opened m var = some m2 → m2.world.drawn = m.world.drawn := by
  intro var m2 h
  unfold timerOp.opened at h
  repeat' first
   | (cases h; done)
   | (cases h; rfl)
   | split at h
 have hre : ∀ (m : Machine) (k : Nat) (t : Timer) (a b : Nat), (retime m k t a b).2.world.drawn = m.world.drawn := by
  intro m k t a b
  unfold retime
  simp only []
  split
  · unfold drain
    split <;> rfl
  · rfl
 have hna : ∀ (m m' : Machine) (var : Addr) (f : Nat → Timer → Value × Machine) (v : Value), (∀ k t, (f k t).2.world.drawn = m.world.drawn) → timerOp.named m var f = .ok (v, m') → m'.world.drawn = m.world.drawn := by
  intro m m' var f v hf h
  unfold timerOp.named at h
  split at h
  · injection h with h
    rw [← hf _ _, h]
  · cases h
 unfold timerOp at h
 repeat' first
  | (cases h; done)
  | (cases h; rfl)
  | exact hna _ _ _ _ _ (fun k t => hre _ _ _ _ _) h
  | (rename_i e; exact hna _ _ _ _ _ (fun k t => (hre _ _ _ _ _).trans (hop _ _ e)) h)
  | split at h
theorem up_runT (p : Program) (m m' : Machine) (i : Nat) (b : Bool) (h : (runT p m i b).1 = .next m') : m.world.drawn ≤ m'.world.drawn := by
 simp only [runT] at h
 have hs := fun g => up_stepG p (i == 0) g m.world b
 revert h
 generalize m.gs.swapAt! _ _ = gg
 have hs := hs gg.1
 generalize stepG p _ gg.1 m.world b = s at hs
 intro h
 cases s <;> simp only [] at h
 case comm => exact Nat.le_trans hs (up_comm _ _ _ _ _ _ _ _ _ _ h)
 case collect => exact Nat.le_trans hs (up_look _ _ _ _ _ h)
 case ended => cases h
 case timer =>
  refine Nat.le_trans hs ?_
  repeat' first
   | (cases h; done)
   | (rename_i e; cases h; have k := up_timer _ _ _ _ e; exact Nat.le_of_eq k.symm)
   | (rename_i e; unfold endThrow dieOf at e; cases e; cases h; exact Nat.le_refl _)
   | split at h
 case coroswitch =>
  refine Nat.le_trans hs ?_
  repeat' first
   | (cases h; done)
   | (cases h; exact Nat.le_refl _)
   | (rename_i e; unfold endThrow dieOf at e; cases e; cases h; exact Nat.le_refl _)
   | split at h
 all_goals
  refine Nat.le_trans hs ?_
  repeat' first
   | (cases h; done)
   | (cases h; exact Nat.le_refl _)
   | split at h
theorem up_askOn (p : Program) (m m' : Machine) (ops : Array MemOp) (h : askOn p m = .machine (.next m') ops) : m.world.drawn ≤ m'.world.drawn := by
 unfold askOn at h
 simp only [] at h
 split at h
 · cases h
 · rename_i e
   refine Nat.le_trans (run_ok e) ?_
   clear e
   repeat' first
    | (cases h; done)
    | (cases h; exact Nat.le_refl _)
    | (simp only [Move.machine.injEq] at h; exact up_serve _ _ _ _ h.1)
    | (rename_i e; cases h; have k := run_ok e; exact k)
    | split at h
theorem up_askOn2 (p : Program) (m m' : Machine) (i : Nat) (h : askOn p m = .goroutine m' i) : m.world.drawn ≤ m'.world.drawn := by
 unfold askOn at h
 simp only [] at h
 split at h
 · cases h
 · rename_i e
   refine Nat.le_trans (run_ok e) ?_
   clear e
   repeat' first
    | (cases h; done)
    | (cases h; exact Nat.le_refl _)
    | (rename_i e; have k := run_ok e; refine Nat.le_trans k ?_; clear e k)
    | split at h
theorem up_ask (p : Program) (m m' : Machine) : (∀ ops, ask p m = .machine (.next m') ops → m.world.drawn ≤ m'.world.drawn) ∧ ∀ i, ask p m = .goroutine m' i → m.world.drawn ≤ m'.world.drawn := by
 have on : ∀ m2 : Machine, m.world.drawn ≤ m2.world.drawn → (∀ ops, askOn p m2 = .machine (.next m') ops → m.world.drawn ≤ m'.world.drawn) ∧ ∀ i, askOn p m2 = .goroutine m' i → m.world.drawn ≤ m'.world.drawn :=
  fun m2 h => ⟨fun ops e => Nat.le_trans h (up_askOn p m2 m' ops e), fun i e => Nat.le_trans h (up_askOn2 p m2 m' i e)⟩
 unfold ask
 split
 · split
   · exact ⟨fun _ h => (by cases h), fun _ h => (by cases h)⟩
   · rename_i e
     have k := run_ok e
     split
     · rename_i e2
       exact on _ (Nat.le_trans k (up_look _ _ _ _ _ e2))
     · rename_i hn
       exact ⟨fun _ h => (by simp only [Move.machine.injEq] at h; exact absurd h.1 (hn m')), fun _ h => (by cases h)⟩
   · rename_i e
     exact on _ (run_ok e)
 · exact on m (Nat.le_refl _)
theorem up_move (p : Program) (m m' : Machine) : (∀ ops, move p m = .machine (.next m') ops → m.world.drawn ≤ m'.world.drawn) ∧ ∀ i, move p m = .goroutine m' i → m.world.drawn ≤ m'.world.drawn := by
 unfold move
 repeat' first
  | exact up_ask p _ m'
  | exact ⟨fun _ h => (by cases h), fun _ h => (by cases h; exact Nat.le_refl _)⟩
  | exact ⟨fun _ h => (by cases h), fun _ h => (by cases h)⟩
  | split
theorem up_step (p : Program) (m m' : Machine) (h : step p m = .next m') : m.world.drawn ≤ m'.world.drawn := by
 unfold step stepT at h
 split at h
 · rename_i m1 i hm
   exact Nat.le_trans ((up_move p m m1).2 i hm) (up_runT p m1 m' i true h)
 · rename_i s ops hm
   simp only [] at h
   subst h
   exact (up_move p m m').1 ops hm
theorem up_runN (p : Program) : ∀ (n : Nat) (m m' : Machine), runN p n m = .next m' → m.world.drawn ≤ m'.world.drawn
 | 0, m, m', h => by
  simp only [runN, Stepped.next.injEq] at h
  rw [h]; exact Nat.le_refl _
 | n + 1, m, m', h => by
  simp only [runN] at h
  split at h
  · rename_i m1 e
    exact Nat.le_trans (up_step p m m1 e) (up_runN p n m1 m' h)
  · rename_i hn
    exact absurd h (hn m')
/-- a call that returns has drawn as much as was drawn before it, or more -/
theorem calls_up {P : Program} {f : FuncId} {args : Array Value} {w : World} {R : Ending → World → Prop} (h : Calls P f args w R) : Calls P f args w fun e w' => R e w' ∧ ((∃ v, e = .returned v) → w.drawn ≤ w'.drawn) := by
 intro cs
 obtain ⟨e, w', fr, hR, hc, h1, h2⟩ := h cs
 refine ⟨e, w', fr, ⟨hR, ?_⟩, hc, h1, h2⟩
 rintro ⟨v, rfl⟩
 obtain ⟨n, hn⟩ := hc
 exact up_runN P n _ _ hn
end Go.Proofs.YtdcbjedkddgfkaaGreatDoor
