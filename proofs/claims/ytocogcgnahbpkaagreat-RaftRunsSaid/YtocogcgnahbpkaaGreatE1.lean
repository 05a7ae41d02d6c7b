/-
  A part of the proof of what E53 says at its head.
-/
import Derived.Test.YtocogcgnahbpkaaGreatE0
namespace Go.SL
open Go.RowKit
abbrev Env := List (Nat × Value)
def look : Env → Nat → Option Value
  | [], _ => none
  | (k, v) :: r, t => bif Nat.beq k t then some v else look r t
def ev (e : Env) : Operand → Option Value
  | .tmp t => look e t
  | .const v => some v
  | .global g => some (.pointer (some ⟨g, 0, none⟩))
  | .func f => some (.func (.func f) #[] #[])
def Ag (n : Nat) (e : Env) (t : Array Value) : Prop := t.size = n ∧ ∀ k v, look e k = some v → t[k]? = some v
def puts (e : Env) (d : Option Nat) (v : Value) : Env := match d with | some d => (d, v) :: e | none => e
def fits (n : Nat) : Option Nat → Bool
  | some d => Nat.blt d n
  | none => true
def Subs : Env → Env → Prop
  | [], _ => True
  | (k, v) :: r, e => look e k = some v ∧ Subs r e
theorem look_cons {k t : Nat} {v : Value} {r : Env} : look ((k, v) :: r) t = if k = t then some v else look r t := by
  show (bif Nat.beq k t then some v else look r t) = _
  by_cases h : k = t
  · subst h; simp
  · have : Nat.beq k t = false := by rw [← Bool.not_eq_true]; intro h'; exact h (Nat.eq_of_beq_eq_true h')
    rw [this, if_neg h]; rfl
theorem Ag.getD {n : Nat} {e : Env} {t : Array Value} (h : Ag n e t) {k : Nat} {v : Value} (hk : look e k = some v) : t.getD k undef = v := by
  rw [Array.getD_eq_getD_getElem?, h.2 k v hk]; rfl
theorem Ag.eval {n : Nat} {e : Env} {a : Act} (h : Ag n e a.tmps) {x : Operand} {v : Value} (hx : ev e x = some v) : a.eval x = v := by
  cases x with
  | tmp t => exact h.getD hx
  | const u => injection hx
  | global g => injection hx
  | func f => injection hx
theorem Ag.put {n : Nat} {e : Env} {a : Act} (h : Ag n e a.tmps) {d : Option Nat} (hd : fits n d = true) (v : Value) : Ag n (puts e d v) (a.put d v).tmps := by
  cases d with
  | none => exact h
  | some d =>
    have hdn : d < n := by simpa [fits] using hd
    refine ⟨by simp [Act.put, h.1], fun k u hk => ?_⟩
    rw [puts, look_cons] at hk
    simp only [Act.put]
    rw [Array.getElem?_setIfInBounds]
    by_cases e1 : d = k
    · rw [if_pos e1] at hk; rw [if_pos e1, if_pos (by rw [h.1]; exact hdn)]; exact hk
    · rw [if_neg e1] at hk; rw [if_neg e1]; exact h.2 k u hk
theorem Subs.look : ∀ {e' e : Env}, Subs e' e → ∀ k v, look e' k = some v → look e k = some v
  | [], _, _, _, _, h => nomatch h
  | (j, u) :: r, e, ⟨h1, h2⟩, k, v, h => by
    rw [look_cons] at h
    by_cases hj : j = k
    · rw [if_pos hj] at h; rw [← hj, h1]; exact h
    · rw [if_neg hj] at h; exact h2.look k v h
theorem Ag.hit {n : Nat} {e : Env} {t : Array Value} (h : Ag n e t) {k : Nat} {v : Value} (hk : look e k = some v) : Ag n ((k, v) :: e) t := ⟨h.1, fun j u hj => by
  rw [look_cons] at hj
  by_cases hkj : k = j
  · rw [if_pos hkj] at hj; rw [← hkj]; rw [← hj]; exact h.2 k v hk
  · rw [if_neg hkj] at hj; exact h.2 j u hj⟩
theorem Ag.sub {n : Nat} {e e' : Env} {t : Array Value} (h : Ag n e t) (hs : Subs e' e) : Ag n e' t := ⟨h.1, fun k v hk => h.2 k v (hs.look k v hk)⟩
abbrev Fin := Value → List HP → Prop
def Ends (P : Program) (f : FuncId) (R : Fin) (F : HP) (b : Frame) (cs : List Frame) (todo : List Item) (a : Act) (w : World) : Prop :=
  ∃ v w' fr L, R v L ∧ Sat w' (L ++ [F]) ∧ Steps P (lone (b.at a todo) cs w) (lone fr cs w') ∧ fr.fn = f ∧ fr.leaving P w' (.returned v)
def W (P : Program) (f : FuncId) (n : Nat) (R : Fin) (todo : List Item) (e : Env) (ds : List Deferred) (L : List HP) : Prop :=
  ∀ (F : HP) (b : Frame) cs t w, b.fn = f → b.kind = .normal → Ag n e t → Sat w (L ++ [F]) → Ends P f R F b cs todo ⟨t, ds⟩ w
def Enters (P : Program) (f : FuncId) : Prop := ∀ args w, (callFunc f args).run P w = .ok (.enter f args) w
def Fn (P : Program) (f : FuncId) (args : Array Value) (L : List HP) (R : Fin) : Prop :=
  Enters P f ∧ ∀ (F : HP) w, Sat w (L ++ [F]) → Calls P f args w fun e w' => ∃ v L', e = .returned v ∧ R v L' ∧ Sat w' (L' ++ [F])
def FnQ (P : Program) (f : FuncId) (args : Array Value) (L : List HP) (v : Value) : Prop :=
  Enters P f ∧ ∀ w, Sat w L → Calls P f args w fun e w' => e = .returned v ∧ Grows w w'
section
variable {P : Program} {f : FuncId} {n : Nat} {R : Fin} {k : List Item} {e : Env} {ds : List Deferred} {L : List HP}
theorem Ends.next {F : HP} {b : Frame} {cs : List Frame} {todo todo' : List Item} {a : Act} {w : World}
    (hs : step P (lone (b.at a todo) cs w) = .next (lone (b.at a todo') cs w)) (h : Ends P f R F b cs todo' a w) : Ends P f R F b cs todo a w :=
  let ⟨v, w', fr, L, h1, h2, h3, h4, h5⟩ := h; ⟨v, w', fr, L, h1, h2, .head hs h3, h4, h5⟩
theorem W.next {todo todo' : List Item} (hs : ∀ (b : Frame) cs t w, step P (lone (b.at ⟨t, ds⟩ todo) cs w) = .next (lone (b.at ⟨t, ds⟩ todo') cs w))
    (h : W P f n R todo' e ds L) : W P f n R todo e ds L := fun F b cs t w h1 h2 h3 h4 => .next (hs b cs t w) (h F b cs t w h1 h2 h3 h4)
theorem W.seq {x y : Code} (h : W P f n R (.code x :: .code y :: k) e ds L) : W P f n R (.code (.seq x y) :: k) e ds L := .next (fun _ _ _ _ => step_seq) h
theorem W.skip (h : W P f n R k e ds L) : W P f n R (.code .skip :: k) e ds L := .next (fun _ _ _ _ => step_skip) h
theorem W.label {l : Nat} (h : W P f n R k e ds L) : W P f n R (.code (.label l) :: k) e ds L := .next (fun _ _ _ _ => step_label) h
theorem W.endBlock {id : Nat} (h : W P f n R k e ds L) : W P f n R (.inBlock id :: k) e ds L := .next (fun _ _ _ _ => step_inBlock) h
theorem W.block {id : Nat} {c : Code} (h : W P f n R (.code c :: .inBlock id :: k) e ds L) : W P f n R (.code (.block id c) :: k) e ds L := .next (fun _ _ _ _ => step_block) h
theorem W.exit {id : Nat} {k' : List Item} (hk : exitTo id k = some k') (h : W P f n R k' e ds L) : W P f n R (.code (.exit id) :: k) e ds L := .next (fun _ _ _ _ => step_exit hk) h
theorem W.goto {l : Nat} {k' : List Item} (hk : gotoIn l k = some k') (h : W P f n R k' e ds L) : W P f n R (.code (.goto l) :: k) e ds L := .next (fun _ _ _ _ => step_goto hk) h
theorem W.cond {c : Operand} {x y : Code} {p : Bool} (hc : ev e c = some (.bool p)) (ht : p = true → W P f n R (.code x :: k) e ds L) (hf : p = false → W P f n R (.code y :: k) e ds L) :
    W P f n R (.code (.cond c x y) :: k) e ds L := fun F b cs t w h1 h2 h3 h4 => by
  refine .next (step_cond (t := p) (h3.eval (a := ⟨t, ds⟩) hc)) ?_
  cases p
  · exact hf rfl F b cs t w h1 h2 h3 h4
  · exact ht rfl F b cs t w h1 h2 h3 h4
theorem W.ifd {c : Operand} {x y : Code} {p : Prop} [Decidable p] (hc : ev e c = some (.bool (decide p))) (ht : p → W P f n R (.code x :: k) e ds L) (hf : ¬ p → W P f n R (.code y :: k) e ds L) :
    W P f n R (.code (.cond c x y) :: k) e ds L := .cond hc (fun h => ht (of_decide_eq_true h)) (fun h => hf (of_decide_eq_false h))
theorem W.condT {c : Operand} {x y : Code} (hc : ev e c = some (.bool true)) (ht : W P f n R (.code x :: k) e ds L) : W P f n R (.code (.cond c x y) :: k) e ds L := .cond hc (fun _ => ht) (fun h => nomatch h)
theorem W.condF {c : Operand} {x y : Code} (hc : ev e c = some (.bool false)) (hf : W P f n R (.code y :: k) e ds L) : W P f n R (.code (.cond c x y) :: k) e ds L := .cond hc (fun h => nomatch h) (fun _ => hf)
theorem W.weak {e' : Env} {L' : List HP} (hs : Subs e' e) (hL : Ent L L') (h : W P f n R k e' ds L') : W P f n R k e ds L :=
  fun F b cs t w h1 h2 h3 h4 => h F b cs t w h1 h2 (h3.sub hs) (h4.entF hL)
theorem W.ent {L' : List HP} (hL : Ent L L') (h : W P f n R k e ds L') : W P f n R k e ds L := fun F b cs t w h1 h2 h3 h4 => h F b cs t w h1 h2 h3 (h4.entF hL)
theorem W.keep {e' : Env} (hs : Subs e' e) (h : W P f n R k e' ds L) : W P f n R k e ds L := fun F b cs t w h1 h2 h3 h4 => h F b cs t w h1 h2 (h3.sub hs) h4
theorem W.pure {φ : Prop} (h : φ → W P f n R k e ds L) : W P f n R k e ds (pure' φ :: L) := fun F b cs t w h1 h2 h3 h4 => h h4.pure F b cs t w h1 h2 h3 (h4.ent (.drop _))
theorem W.ex {α : Sort _} {p : α → HP} (h : ∀ x, W P f n R k e ds (p x :: L)) : W P f n R k e ds ((fun r => ∃ x, p x r) :: L) := fun F b cs t w h1 h2 h3 h4 =>
  let ⟨x, h5⟩ := Sat.ex h4; h x F b cs t w h1 h2 h3 h5
theorem W.star {l : List HP} (h : W P f n R k e ds (l ++ L)) : W P f n R k e ds (Stars l :: L) := .ent .star h
theorem W.ne {q : Bool} {b b' : Nat} {o o' : Obj} {L' : List HP} (hp : Picks [Own true b o, Own q b' o'] L L') (h : b ≠ b' → W P f n R k e ds L) : W P f n R k e ds L :=
  fun F b cs t w h1 h2 h3 h4 => h (((h4.fst).ent hp.ent).ne) F b cs t w h1 h2 h3 h4
theorem W.loop {ι : Type} {c : Code} (I : ι → Env) (M : ι → List HP) (m : ι → Nat) (i : ι) (hs : Subs (I i) e) (hL : Ent L (M i))
    (h : ∀ i, (∀ j, m j < m i → W P f n R (.inLoop c :: k) (I j) ds (M j)) → W P f n R (.code c :: .inLoop c :: k) (I i) ds (M i)) : W P f n R (.code (.loop c) :: k) e ds L := by
  have key : ∀ q i, m i = q → W P f n R (.inLoop c :: k) (I i) ds (M i) := by
    intro q
    induction q using Nat.strongRecOn with
    | _ q ih => exact fun i hi => .next (fun _ _ _ _ => step_inLoop) (h i fun j hj => ih (m j) (hi ▸ hj) j rfl)
  refine .weak hs hL (.next (fun _ _ _ _ => step_loop) (h i fun j _ => key _ j rfl))
def rv (t : Array Value) : ResultVar → Sem Value
  | .tmp k => pure (t.getD k undef)
  | .cell a ty => do loadVar ty (← asAddr (t.getD a undef))
theorem results_rv (fn : Func) (t : Array Value) : results fn t = (do let vs ← fn.results.mapM (rv t); pure (if h : vs.size = 1 then vs[0] else .tuple vs)) := by
  unfold results
  congr 1
section
variable {fn : Func} {r s q z : ResultVar} {v u x y : Value} {t : Array Value} {w : World}
theorem results0 (hr : fn.results = #[]) : (results fn t).run P w = .ok (.tuple #[]) w := results_none hr t P w
theorem results1 (hr : fn.results = #[r]) (h : (rv t r).run P w = .ok v w) : (results fn t).run P w = .ok v w := by rw [results_rv, hr]; simp [h]
theorem results2 (hr : fn.results = #[r, s]) (h : (rv t r).run P w = .ok v w) (h2 : (rv t s).run P w = .ok u w) : (results fn t).run P w = .ok (.tuple #[v, u]) w := by rw [results_rv, hr]; simp [h, h2]
theorem results3 (hr : fn.results = #[r, s, q]) (h : (rv t r).run P w = .ok v w) (h2 : (rv t s).run P w = .ok u w) (h3 : (rv t q).run P w = .ok x w) : (results fn t).run P w = .ok (.tuple #[v, u, x]) w := by
  rw [results_rv, hr]; simp [h, h2, h3]
theorem results4 (hr : fn.results = #[r, s, q, z]) (h : (rv t r).run P w = .ok v w) (h2 : (rv t s).run P w = .ok u w) (h3 : (rv t q).run P w = .ok x w) (h4 : (rv t z).run P w = .ok y w) :
    (results fn t).run P w = .ok (.tuple #[v, u, x, y]) w := by rw [results_rv, hr]; simp [h, h2, h3, h4]
end
theorem rv_tmp {a : Act} {k : Nat} {v : Value} {w : World} (h : Ag n e a.tmps) (hk : look e k = some v) : (rv a.tmps (.tmp k)).run P w = .ok v w := by
  simp only [rv, h.getD hk]; rfl
inductive RV (P : Program) (e : Env) (L : List HP) : ResultVar → Value → Prop
  | tmp {k : Nat} {v : Value} (h : look e k = some v) : RV P e L (.tmp k) v
  | cell {a : Nat} {ty : TypeId} {v : Value} {p : Addr} (h : look e a = some (.pointer (some p))) (hl : ∀ w, Sat w L → (loadVar ty p).run P w = .ok v w) : RV P e L (.cell a ty) v
theorem RV.run {r : ResultVar} {v : Value} {t : Array Value} {w : World} (h : RV P e L r v) (ha : Ag n e t) (hs : Sat w L) : (rv t r).run P w = .ok v w := by
  cases h with
  | tmp h => simp only [rv, ha.getD h]; rfl
  | cell h hl => simp only [rv, ha.getD h, asAddr, Sem.run_bind, Sem.run_pure, Result.andThen_ok]; exact hl w hs
inductive RVs (P : Program) (e : Env) (L : List HP) : Array ResultVar → Value → Prop
  | r0 : RVs P e L #[] (.tuple #[])
  | r1 {r : ResultVar} {v : Value} (h : RV P e L r v) : RVs P e L #[r] v
  | r2 {r s : ResultVar} {v u : Value} (h : RV P e L r v) (h2 : RV P e L s u) : RVs P e L #[r, s] (.tuple #[v, u])
  | r3 {r s q : ResultVar} {v u x : Value} (h : RV P e L r v) (h2 : RV P e L s u) (h3 : RV P e L q x) : RVs P e L #[r, s, q] (.tuple #[v, u, x])
  | r4 {r s q z : ResultVar} {v u x y : Value} (h : RV P e L r v) (h2 : RV P e L s u) (h3 : RV P e L q x) (h4 : RV P e L z y) : RVs P e L #[r, s, q, z] (.tuple #[v, u, x, y])
theorem RVs.run {fn : Func} {v : Value} {t : Array Value} {w : World} (h : RVs P e L fn.results v) (ha : Ag n e t) (hs : Sat w L) : (results fn t).run P w = .ok v w := by
  generalize hr : fn.results = rs at h
  cases h with
  | r0 => exact results0 hr
  | r1 h => exact results1 hr (h.run ha hs)
  | r2 h h2 => exact results2 hr (h.run ha hs) (h2.run ha hs)
  | r3 h h2 h3 => exact results3 hr (h.run ha hs) (h2.run ha hs) (h3.run ha hs)
  | r4 h h2 h3 h4 => exact results4 hr (h.run ha hs) (h2.run ha hs) (h3.run ha hs) (h4.run ha hs)
theorem W.ret {fn : Func} {v : Value} {L' : List HP} (hf : P.funcs[f]? = some fn) (hv : RVs P e L fn.results v) (hL : Ent L L') (hR : R v L') : W P f n R (.code .ret :: k) e [] L := fun F b cs t w h1 h2 h3 h4 =>
  ⟨v, w, { b.at ⟨t, []⟩ (.code .ret :: k) with mode := .returning }, L', hR, h4.entF hL, .one step_ret, h1, rfl, rfl, h2, fn, by show P.funcs[b.fn]? = _; rw [h1]; exact hf, hv.run h3 h4.fst⟩
theorem W.done {fn : Func} {v : Value} {L' : List HP} (hf : P.funcs[f]? = some fn) (hv : RVs P e L fn.results v) (hL : Ent L L') (hR : R v L') : W P f n R [] e [] L := fun F b cs t w h1 h2 h3 h4 =>
  ⟨v, w, { b.at ⟨t, []⟩ [] with mode := .returning }, L', hR, h4.entF hL, .one step_end, h1, rfl, rfl, h2, fn, by show P.funcs[b.fn]? = _; rw [h1]; exact hf, hv.run h3 h4.fst⟩
def args0 : Nat → List Value → Env
  | _, [] => []
  | i, v :: r => (i, v) :: args0 (i + 1) r
theorem look_args0 : ∀ (l : List Value) (i k : Nat) (v : Value), look (args0 i l) k = some v → i ≤ k ∧ l[k - i]? = some v
  | [], _, _, _, h => nomatch h
  | x :: r, i, k, v, h => by
    rw [args0, look_cons] at h
    by_cases hk : i = k
    · rw [if_pos hk] at h; subst hk; simp; injection h
    · rw [if_neg hk] at h
      obtain ⟨h1, h2⟩ := look_args0 r (i + 1) k v h
      refine ⟨by omega, ?_⟩
      rw [show k - i = (k - (i + 1)) + 1 by omega, List.getElem?_cons_succ]
      exact h2
theorem Fn.enter {fn : Func} {c : Code} {args : List Value} (hf : P.funcs[f]? = some fn) (hb : fn.body = some c) (hg : (fn.name == "runtime.NumGoroutine") = false) (hn : Nat.ble args.length fn.ntmps = true)
    (h : W P f fn.ntmps R [.code c] (args0 0 args) [] L) : Fn P f args.toArray L R := by
  refine ⟨fun a w => by simp [callFunc, hf, show fn.name ≠ "runtime.NumGoroutine" by simpa using hg, hb], fun F w hs cs => ?_⟩
  have henter : Frame.enter P f args.toArray .normal =
      ({ (default : Frame) with fn := f, kind := .normal } : Frame).at { tmps := args.toArray ++ Array.replicate (fn.ntmps - args.length) undef, defers := [] } [.code c] := by
    simp [Frame.enter, Frame.at, hf, hb]
  have hle : args.length ≤ fn.ntmps := Nat.le_of_ble_eq_true hn
  have hag : Ag fn.ntmps (args0 0 args) (args.toArray ++ Array.replicate (fn.ntmps - args.length) undef) := ⟨by simp; omega, fun k v hk => by
    obtain ⟨_, h⟩ := look_args0 args 0 k v hk
    simp only [Nat.sub_zero] at h
    rw [Array.getElem?_append_left (by simpa using (List.getElem?_eq_some_iff.1 h).1)]
    simpa using h⟩
  obtain ⟨v, w', fr, L', h1, h2, h3, h4, h5⟩ := h F { (default : Frame) with fn := f, kind := .normal } cs _ w rfl rfl hag hs
  exact ⟨.returned v, w', fr, ⟨v, L', rfl, h1, h2⟩, by rw [henter]; exact h3, h4, h5⟩
theorem Fn.mono {args : Array Value} {R' : Fin} (h : Fn P f args L R) (hr : ∀ v L, R v L → ∃ L', Ent L L' ∧ R' v L') : Fn P f args L R' := ⟨h.1, fun F w hs =>
  (h.2 F w hs).mono fun _ _ ⟨v, L', h1, h2, h3⟩ => let ⟨L'', h4, h5⟩ := hr v L' h2; ⟨v, L'', h1, h5, h3.entF h4⟩⟩
theorem Fn.pre {args : Array Value} {L' : List HP} (h : Fn P f args L R) (hL : Ent L' L) : Fn P f args L' R := ⟨h.1, fun F w hs => h.2 F w (hs.entF hL)⟩
theorem Fn.quiet {args : Array Value} {v : Value} (h : Fn P f args L fun v' _ => v' = v) (hp : ∀ Q ∈ L, Pers Q) : FnQ P f args L v := by
  refine ⟨h.1, fun w hs => ?_⟩
  have hin : ∀ r : Res, r.In (xob w) → r.sh.le fun i => (xob w i).map fun o => (false, o) := fun r hr i q o e => by
    obtain ⟨rfl, q', e'⟩ := Res.sh_at e
    exact ⟨false, by simp only [hr i q' o e']; rfl, id⟩
  have hpers : ∀ (l : List HP), (∀ Q ∈ l, Pers Q) → ∀ r : Res, r.In (xob w) → Stars l r →
      Stars (l ++ [fun r => ∀ (i : Option Nat) (o : XO), xob w i = some o → ∃ q, r i = some (q, o)]) fun i => (xob w i).map fun o => (false, o) := by
    intro l
    induction l with
    | nil => exact fun _ r _ _ => ⟨_, fun _ => none, .refl _, fun _ _ _ h => (nomatch h), fun _ _ _ _ _ _ h => (nomatch h), fun i o e => ⟨false, by simp only [e]; rfl⟩, trivial⟩
    | cons P l ih =>
      rintro hp r hr ⟨r1, r2, a, b, c, d, e⟩
      refine ⟨r1.sh, _, hin r1 (hr.le a), .refl _, fun i q o q' o' e1 e2 => ⟨(Res.sh_at e1).1, ?_⟩, hp P (List.mem_cons_self ..) r1 d, ih (fun Q hQ => hp Q (List.mem_cons_of_mem _ hQ)) r2 (hr.le b) e⟩
      cases hw : xob w i with
      | none => simp only [hw] at e2; cases e2
      | some o2 => simp only [hw] at e2; injection e2 with e2; injection e2 with e2 _; exact e2.symm
  obtain ⟨r, hr, hl⟩ := hs
  refine (h.2 _ w ⟨_, fun i q o e => ?_, hpers L hp r hr hl⟩).mono ?_
  · cases hw : xob w i with
    | none => simp only [hw] at e; cases e
    | some o2 => simp only [hw] at e; injection e with e; injection e with _ e; rw [e]
  · rintro _ w' ⟨v', L', rfl, rfl, r', hr', h'⟩
    refine ⟨rfl, fun i o e => ?_⟩
    obtain ⟨r1, r2, a, b, c, d, s1, s2, x, y, z, u, _⟩ := Stars.app.1 h'
    obtain ⟨q, hq⟩ := u i o e
    exact (hr'.le (x.trans b)) i q o hq
def FnN (P : Program) (f : FuncId) (args : Array Value) (L : List HP) (R : Fin) : Prop :=
  Enters P f ∧ ∀ (M : List HP) w, Sat w L → Sat w M → Calls P f args w fun e w' => ∃ v N, e = .returned v ∧ R v N ∧ Sat w' (N ++ M) ∧ Grows w w'
theorem Fn.new {args : Array Value} (h : Fn P f args L fun v N => ∃ N1, N = N1 ++ L ∧ R v N1 ∧ ∀ Q ∈ N1, Excl Q) (hp : ∀ Q ∈ L, Pers Q) : FnN P f args L R := by
  refine ⟨h.1, fun M w hs hM => ?_⟩
  have hin : ∀ r : Res, r.In (xob w) → r.sh.le fun i => (xob w i).map fun o => (false, o) := fun r hr i q o e => by
    obtain ⟨rfl, q', e'⟩ := Res.sh_at e
    exact ⟨false, by simp only [hr i q' o e']; rfl, id⟩
  have hpers : ∀ (l : List HP), (∀ Q ∈ l, Pers Q) → ∀ r : Res, r.In (xob w) → Stars l r →
      Stars (l ++ [fun r => ∀ (i : Option Nat) (o : XO), xob w i = some o → ∃ q, r i = some (q, o)]) fun i => (xob w i).map fun o => (false, o) := by
    intro l
    induction l with
    | nil => exact fun _ r _ _ => ⟨_, fun _ => none, .refl _, fun _ _ _ h => (nomatch h), fun _ _ _ _ _ _ h => (nomatch h), fun i o e => ⟨false, by simp only [e]; rfl⟩, trivial⟩
    | cons P l ih =>
      rintro hp r hr ⟨r1, r2, a, b, c, d, e⟩
      refine ⟨r1.sh, _, hin r1 (hr.le a), .refl _, fun i q o q' o' e1 e2 => ⟨(Res.sh_at e1).1, ?_⟩, hp P (List.mem_cons_self ..) r1 d, ih (fun Q hQ => hp Q (List.mem_cons_of_mem _ hQ)) r2 (hr.le b) e⟩
      cases hw : xob w i with
      | none => simp only [hw] at e2; cases e2
      | some o2 => simp only [hw] at e2; injection e2 with e2; injection e2 with e2 _; exact e2.symm
  obtain ⟨r, hr, hl⟩ := hs
  refine (h.2 _ w ⟨_, fun i q o e => ?_, hpers L hp r hr hl⟩).mono ?_
  · cases hw : xob w i with
    | none => simp only [hw] at e; cases e
    | some o2 => simp only [hw] at e; injection e with e; injection e with _ e; rw [e]
  · rintro _ w' ⟨v', L', rfl, ⟨N, rfl, hR, hE⟩, r', hr', h'⟩
    obtain ⟨r1, r2, a, b, c, d, s1, s2, x, y, z, u, _⟩ := Stars.app.1 h'
    have hg : Grows w w' := fun i o e => by
      obtain ⟨q, hq⟩ := u i o e
      exact (hr'.le (x.trans b)) i q o hq
    refine ⟨v', N, rfl, hR, ?_, hg⟩
    obtain ⟨t1, t2, a1, a2, a3, a4, _⟩ := Stars.app.1 d
    obtain ⟨rm, hm1, hm2⟩ := hM
    have h1 := Excl.stars hE t1 a4
    have hfresh : ∀ i q o, t1.ex i = some (q, o) → xob w i = none := fun i q o e => by
      obtain ⟨rfl, e6⟩ := Res.ex_at e
      cases hw : xob w i with
      | none => rfl
      | some o2 =>
        obtain ⟨q2, e2⟩ := u i o2 hw
        obtain ⟨q3, e3, _⟩ := a1 i true o e6
        obtain ⟨q4, e4, h4⟩ := x i q2 o2 e2
        have := c i q3 o q4 o2 e3 e4
        obtain ⟨q5, e5, h5⟩ := a1 i true o e6
        rw [e3] at e5; injection e5 with e5; injection e5 with e5 _
        rw [← e5] at h5
        have := this.1; rw [h5 rfl] at this; cases this
    refine ⟨t1.ex.join rm, ?_, Stars.app.2 ⟨t1.ex, rm, Res.le_join _ _, ?_, ?_, h1, hm2⟩⟩
    · intro i q o e
      unfold Res.join at e
      cases ht : t1.ex i with
      | some y6 => rw [ht] at e; injection e with e; subst e; obtain ⟨h6, e6⟩ := Res.ex_at ht; subst h6; exact (hr'.le (a1.trans a)) i true o e6
      | none => rw [ht] at e; exact hg i o (hm1 i q o e)
    · intro i q o e
      unfold Res.join
      cases ht : t1.ex i with
      | some y => have := hfresh i y.1 y.2 ht; rw [hm1 i q o e] at this; cases this
      | none => exact ⟨q, e, id⟩
    · intro i q o q' o' e e'
      have := hfresh i q o e; rw [hm1 i q' o' e'] at this; cases this
theorem FnN.fn {args : Array Value} (h : FnN P f args L R) : Fn P f args L fun v N => ∃ N1, N = N1 ++ L ∧ R v N1 := ⟨h.1, fun F w hs => (h.2 (L ++ [F]) w hs.fst hs).mono fun e w' ⟨v, N, h1, h2, h3, _⟩ => ⟨v, N ++ L, h1, ⟨N, rfl, h2⟩, by rw [List.append_assoc]; exact h3⟩⟩
theorem FnN.pre {args : Array Value} {M : List HP} (h : FnN P f args L R) (hL : Ent M L) : FnN P f args M R := ⟨h.1, fun N w hs hm => h.2 N w (hs.ent hL) hm⟩
end
end Go.SL
