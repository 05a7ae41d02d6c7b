/-
  A part of the proof of what E53 says at its head.
-/
import Derived.Test.YtocogcgnahbpkaaGreatE1
namespace Go.SL
open Go.RowKit
def QRun (P : Program) (v : Value) (w : World) : Result Next → Prop
  | .ok (.value u) w' => u = v ∧ Grows w w'
  | .ok (.enter f args) w' => w' = w ∧ Calls P f args w fun e w'' => e = .returned v ∧ Grows w w''
  | _ => False
def QOp (P : Program) (n : Nat) (e : Env) (S : List HP) (o : Oper) (v : Value) : Prop :=
  ∀ w (a : Act), Ag n e a.tmps → Sat w S → QRun P v w ((execOp a.eval o).run P w)
def OpS (P : Program) (n : Nat) (e : Env) (L : List HP) (o : Oper) (K : Fin) : Prop :=
  ∀ (F : HP) w (a : Act) (next : Act → World → Prop) Q, Ag n e a.tmps → Sat w (L ++ [F]) → (∀ v w' L', K v L' → Sat w' (L' ++ [F]) → next (a.put o.dst v) w') → o.wp P a w next Q
def OpN (P : Program) (n : Nat) (e : Env) (L : List HP) (o : Oper) (K : Fin) : Prop :=
  ∀ (F : HP) w (a : Act) (next : Act → World → Prop) Q, Ag n e a.tmps → Sat w (L ++ [F]) → (∀ v w' L', K v L' → Sat w' (L' ++ [F]) → Grows w w' → next (a.put o.dst v) w') → o.wp P a w next Q
theorem OpN.op {P : Program} {n : Nat} {e : Env} {L : List HP} {o : Oper} {K : Fin} (h : OpN P n e L o K) : OpS P n e L o K := fun F w a next Q h1 h2 h3 => h F w a next Q h1 h2 fun v w' L' hk hs _ => h3 v w' L' hk hs
def Det (v : Value) (L : List HP) : Fin := fun v' L' => v' = v ∧ L' = L
section
variable {P : Program} {n : Nat} {e : Env} {L S : List HP} {o : Oper} {v : Value} {K : Fin}
theorem QRun.wp {w : World} {a : Act} {next : Act → World → Prop} {Q : Exit → Act → World → Prop} (h : QRun P v w ((execOp a.eval o).run P w)) (hn : ∀ w', Grows w w' → next (a.put o.dst v) w') : o.wp P a w next Q := by
  unfold Oper.wp
  generalize (execOp a.eval o).run P w = r at h ⊢
  cases r with
  | ok x w' =>
    cases x with
    | value u => obtain ⟨rfl, hg⟩ := h; exact hn _ hg
    | enter f args =>
      obtain ⟨rfl, hc⟩ := h
      exact hc.mono fun e w'' ⟨he, hg⟩ => by subst he; exact hn _ hg
    | _ => exact h.elim
  | halt x w' => exact h.elim
theorem QOp.op (h : QOp P n e L o v) : OpS P n e L o (Det v L) := fun _ w a _ _ h1 h2 h3 => (h w a h1 h2.fst).wp fun w' hg => h3 v w' L ⟨rfl, rfl⟩ (h2.grows hg)
theorem QOp.ent {S' : List HP} (h : QOp P n e S o v) (hs : Ent S' S) : QOp P n e S' o v := fun w a h1 h2 => h w a h1 (h2.ent hs)
theorem OpS.mono {K' : Fin} (h : OpS P n e L o K) (hk : ∀ v L, K v L → K' v L) : OpS P n e L o K' := fun F w a next Q h1 h2 h3 => h F w a next Q h1 h2 fun v w' L' hv hs => h3 v w' L' (hk v L' hv) hs
def RS (P : Program) (n : Nat) (ops : Array Oper) (rest : List Oper) (C : Env → List HP → Prop) (e : Env) (L : List HP) : Prop :=
  ∀ (F : HP) (a : Act) w (Q : Exit → Act → World → Prop), Ag n e a.tmps → Sat w (L ++ [F]) →
    (∀ e' L' (a' : Act) w', C e' L' → Ag n e' a'.tmps → a'.defers = a.defers → Sat w' (L' ++ [F]) → Q .normal a' w') → wpList P ops Q rest a w
variable {ops : Array Oper} {rest : List Oper} {C : Env → List HP → Prop}
theorem RS.nil (h : C e L) : RS P n ops [] C e L := fun _ a w _ h1 h2 h3 => h3 e L a w h h1 rfl h2
theorem RS.op (hg : o.guard = none) (h : OpS P n e L o K) (hf : fits n o.dst = true) (hn : ∀ v L', K v L' → RS P n ops rest C (puts e o.dst v) L') : RS P n ops (o :: rest) C e L :=
  fun F a w Q h1 h2 h3 => by
    unfold wpList
    rw [if_pos (by simp [Region.wanted, hg])]
    refine .inl (h F w a _ Q h1 h2 fun v w' L' hv hs => hn v L' hv F (a.put o.dst v) w' Q (h1.put hf v) hs fun e' L'' a' w'' hc ha hd hs' => h3 e' L'' a' w'' hc ha ?_ hs')
    rw [hd]; cases o.dst <;> rfl
theorem RS.det {d : Nat} {L' : List HP} (hg : o.guard = none) (hd : o.dst = some d) (hf : Nat.blt d n = true) (h : OpS P n e L o (Det v L')) (hn : RS P n ops rest C ((d, v) :: e) L') : RS P n ops (o :: rest) C e L :=
  .op hg h (by rw [hd]; exact hf) fun v' L'' hk => by obtain ⟨rfl, rfl⟩ := hk; rw [hd]; exact hn
theorem RS.det0 {L' : List HP} (hg : o.guard = none) (hd : o.dst = none) (h : OpS P n e L o (Det v L')) (hn : RS P n ops rest C e L') : RS P n ops (o :: rest) C e L :=
  .op hg h (by rw [hd]; rfl) fun v' L'' hk => by obtain ⟨rfl, rfl⟩ := hk; rw [hd]; exact hn
theorem RS.any {d : Nat} (hg : o.guard = none) (hd : o.dst = some d) (hf : Nat.blt d n = true) (h : OpS P n e L o K) (hn : ∀ v L', K v L' → RS P n ops rest C ((d, v) :: e) L') : RS P n ops (o :: rest) C e L :=
  .op hg h (by rw [hd]; exact hf) fun v' L'' hk => by rw [hd]; exact hn v' L'' hk
theorem RS.quiet {d : Nat} (hg : o.guard = none) (hd : o.dst = some d) (hf : Nat.blt d n = true) (h : QOp P n e L o v) (hn : RS P n ops rest C ((d, v) :: e) L) : RS P n ops (o :: rest) C e L := .det hg hd hf h.op hn
theorem yielded_env {j t : Nat} {b : Bool} {oj : Oper} {a : Act} (h1 : Ag n e a.tmps) (hj : ops[j]? = some oj) (hd : oj.dst = some t) (hl : look e t = some (.bool b)) : yielded ops a.tmps j = some b := by
  unfold yielded; rw [hj]; simp only [Option.bind_some, hd, h1.2 t _ hl]
theorem RS.guardT {j t : Nat} {b : Bool} {oj : Oper} (hg : o.guard = some (j, b)) (hj : ops[j]? = some oj) (hd : oj.dst = some t) (hl : look e t = some (.bool b))
    (h : RS P n ops ({ o with guard := none } :: rest) C e L) : RS P n ops (o :: rest) C e L := fun F a w Q h1 h2 h3 => by
  have := h F a w Q h1 h2 h3
  unfold wpList at this ⊢
  rw [if_pos (by simp [Region.wanted])] at this
  rw [if_pos (by simp only [Region.wanted, hg, yielded_env h1 hj hd hl]; exact beq_self_eq_true _)]
  exact this
theorem RS.guardF {j t d : Nat} {b b' : Bool} {oj : Oper} (hg : o.guard = some (j, b)) (hj : ops[j]? = some oj) (hd : oj.dst = some t) (hl : look e t = some (.bool b')) (hb : (b' == b) = false) (ho : o.dst = some d) (hf : Nat.blt d n = true)
    (h : RS P n ops rest C ((d, undef) :: e) L) : RS P n ops (o :: rest) C e L := fun F a w Q h1 h2 h3 => by
  unfold wpList
  rw [if_neg (by simp only [Region.wanted, hg, yielded_env h1 hj hd hl]; intro h; have : (some b' == some b) = (b' == b) := rfl; rw [this, hb] at h; cases h)]
  rw [ho]
  exact h F (a.put (some d) undef) w Q (h1.put (d := some d) hf undef) h2 h3
theorem RS.weak {e' : Env} {L' : List HP} (hs : Subs e' e) (hL : Ent L L') (h : RS P n ops rest C e' L') : RS P n ops rest C e L := fun F a w Q h1 h2 h3 => h F a w Q (h1.sub hs) (h2.entF hL) h3
theorem W.region {f id : Nat} {R : Fin} {k : List Item} {ds : List Deferred} (h : RS P n ops ops.toList (fun e L => W P f n R k e ds L) e L) : W P f n R (.code (.region id ops false) :: k) e ds L := fun F b cs t w h1 h2 h3 h4 => by
  have hw := h F ⟨t, ds⟩ w (fun ex a' w' => ex = .normal ∧ Ends P f R F b cs k a' w') h3 h4 fun e' L' a' w' hc ha hd hs => ⟨rfl, by obtain ⟨t', ds'⟩ := a'; obtain rfl : ds' = ds := hd; exact hc F b cs t' w' h1 h2 ha hs⟩
  rw [← wpOps_eq_wpList ops.toList 0 (by simp), Array.length_toList, ← List.range_eq_range'] at hw
  obtain ⟨ex, a', w', ⟨rfl, hq⟩, harr⟩ := wp_ops _ ⟨t, ds⟩ w hw b k cs
  obtain ⟨v, w2, fr, L', q1, q2, q3, q4, q5⟩ := hq
  exact ⟨v, w2, fr, L', q1, q2, .head step_region (harr.trans q3), q4, q5⟩
def reach (md : Region.Mode) (ops : Array Oper) : Nat → Nat → Nat → Bool
  | 0, _, _ => false
  | q + 1, j, i => match ops[j]? with
    | none => false
    | some o => o.after.any fun x => Region.binds md x && (Nat.beq x.on i || reach md ops q x.on i)
def isMem : Op → Bool
  | .move _ | .assign _ | .pick .. | .nilCheck _ | .binOp .. | .unOp .. | .fieldAddr .. | .field .. | .indexAddr .. | .index .. | .extract .. | .slice .. | .build .. => false
  | _ => true
def need (ops : Array Oper) (j : Nat) : Bool :=
  (List.range ops.size).any fun i => !(Nat.beq i j) && (match ops[i]? with | some o => isMem o.op | none => false) && !(reach .any ops ops.size j i) && !(reach .any ops ops.size i j)
def takeOK (ops : Array Oper) (listed : Array Bool) (i : Nat) : Bool :=
  (Region.ready .any ops listed).contains i && match ops[i]? with
    | none => false
    | some oi => (List.range ops.size).all fun j => match ops[j]? with
      | none => true
      | some oj => Nat.beq j i || listed.getD j true || reach .any ops ops.size j i || oi.apart ops oj
def Down (ops : Array Oper) (listed : Array Bool) : Prop := ∀ (j : Nat) (o : Oper), ops[j]? = some o → listed.getD j false = true → ∀ x ∈ o.after, Region.binds .any x = true → listed.getD x.on false = true
theorem getD_set {listed : Array Bool} {i j : Nat} {d : Bool} (h : (listed.setIfInBounds i true).getD j d = true) : j = i ∨ listed.getD j d = true := by
  by_cases hij : i = j
  · exact .inl hij.symm
  · rw [getD_set_ne d hij] at h; exact .inr h
theorem Down.set {listed : Array Bool} {i : Nat} (h : Down ops listed) (hr : i ∈ Region.ready .any ops listed) : Down ops (listed.setIfInBounds i true) := fun j o ho hj x hx hb => by
  rcases getD_set hj with rfl | hj
  · obtain ⟨_, o', ho', hall⟩ := mem_ready.1 hr
    rw [ho] at ho'; injection ho' with ho'; subst ho'
    exact getD_set_true (hall x hx hb)
  · exact getD_set_true (h j o ho hj x hx hb)
theorem Down.reach {listed : Array Bool} (h : Down ops listed) {i : Nat} (hi : listed.getD i false = false) : ∀ (q j : Nat) (o : Oper), ops[j]? = some o → (∀ x ∈ o.after, Region.binds .any x = true → listed.getD x.on false = true) → reach .any ops q j i = false
  | 0, _, _, _, _ => rfl
  | q + 1, j, o, ho, hall => by
    unfold SL.reach
    rw [ho]
    simp only
    rw [Array.any_eq_false']
    intro x hx hc
    simp only [Bool.and_eq_true, Bool.or_eq_true] at hc
    obtain ⟨hb, hc⟩ := hc
    have hl := hall x hx hb
    rcases hc with hc | hc
    · rw [Nat.eq_of_beq_eq_true hc, hi] at hl; cases hl
    · cases hx2 : ops[x.on]? with
      | none => cases q <;> simp [SL.reach, hx2] at hc
      | some o2 =>
        rw [h.reach hi q x.on o2 hx2 fun y hy hb2 => h x.on o2 hx2 hl y hy hb2] at hc
        cases hc
def anyS (P : Program) (ops : Array Oper) (Q : Exit → Act → World → Prop) (S : World → Prop) : Nat → Array Bool → Act → World → Prop
  | 0, listed, a, w => Region.ready .any ops listed = [] ∧ ∀ w', Grows w w' → Q .normal a w'
  | q + 1, listed, a, w => ∀ w', Grows w w' → (Region.ready .any ops listed = [] → Q .normal a w') ∧
    ∀ i ∈ Region.ready .any ops listed, wpOp P ops Q i (fun a' w'' => (need ops i = true → S w' → S w'') ∧ anyS P ops Q S q (listed.setIfInBounds i true) a' w'') a w'
variable {Q : Exit → Act → World → Prop} {T : World → Prop}
theorem anyS.any : ∀ (q : Nat) (listed : Array Bool) (a : Act) (w : World), anyS P ops Q T q listed a w → wpAny P .any ops Q q listed a w
  | 0, _, _, _, h => ⟨h.1, h.2 _ (.refl _)⟩
  | q + 1, _, _, _, h => ⟨(h _ (.refl _)).1, fun i hi => wpOp_mono (fun a' w' h' => anyS.any q _ a' w' h'.2) ((h _ (.refl _)).2 i hi)⟩
theorem anyS.grows {w w' : World} (hg : Grows w w') : ∀ {q : Nat} {listed : Array Bool} {a : Act}, anyS P ops Q T q listed a w → anyS P ops Q T q listed a w'
  | 0, _, _, h => ⟨h.1, fun w2 h2 => h.2 w2 (hg.trans h2)⟩
  | _ + 1, _, _, h => fun w2 h2 => h w2 (hg.trans h2)
def QA (P : Program) (ops : Array Oper) (T : World → Prop) (o : Oper) (v : Value) (a : Act) : Prop :=
  (Region.wanted o (yielded ops a.tmps) = true ∧ ∀ w, (isMem o.op = true → T w) → QRun P v w ((execOp a.eval o).run P w)) ∨ (Region.wanted o (yielded ops a.tmps) = false ∧ v = undef)
theorem QA.same {a a' : Act} (hy : QA P ops T o v a) (he : execOp a'.eval o = execOp a.eval o) (hw : Region.wanted o (yielded ops a'.tmps) = Region.wanted o (yielded ops a.tmps)) : QA P ops T o v a' := by
  unfold QA at *; rw [he, hw]; exact hy
theorem QA.wpOp {i : Nat} {oi : Oper} {a : Act} (hi : ops[i]? = some oi) (hy : QA P ops T oi v a) {N : Act → World → Prop} {w : World} (hT : isMem oi.op = true → T w) (h : ∀ w', Grows w w' → N (a.put oi.dst v) w') : wpOp P ops Q i N a w := by
  unfold Go.wpOp
  simp only [hi]
  rcases hy with ⟨hw, hv⟩ | ⟨hw, rfl⟩
  · simp only [hw, if_true]; exact .inl ((hv w hT).wp h)
  · simp only [hw, Bool.false_eq_true, if_false]; exact h w (.refl w)
theorem wpOp_putQ {j : Nat} {oi oj : Oper} (hj : ops[j]? = some oj) (hap : oi.apart ops oj = true) (hsi : ∀ cs b, oi.op ≠ .select cs b) (hsj : ∀ cs b, oj.op ≠ .select cs b)
    (hQ : ∀ c a w, Q (.panic c) (a.put oi.dst v) w → Q (.panic c) a w) {N : Act → World → Prop} {a : Act} {w : World} (hy : QA P ops T oi v a) (h : wpOp P ops Q j N (a.put oi.dst v) w) :
    wpOp P ops Q j (fun a' w' => QA P ops T oi v a' ∧ N (a'.put oi.dst v) w') a w := by
  obtain ⟨h1, h2, h3⟩ := Oper.apart_spec hap
  have keep : ∀ (a : Act), QA P ops T oi v a → ∀ u, QA P ops T oi v (a.put oj.dst u) := fun a hy u => hy.same (execOp_put oi hsi a oj.dst u h3) (wanted_put oi a oj.dst u h3)
  have keepD : ∀ d, QA P ops T oi v { a with defers := d :: a.defers } := fun d => hy.same rfl rfl
  unfold wpOp at *
  simp only [hj] at *
  rw [wanted_put oj a oi.dst v h1] at h
  split
  · rename_i hw
    simp only [hw, if_true] at h
    rcases h with h | ⟨hasks, hlets⟩
    case inr => exact .inr ⟨by unfold Oper.asks at *; rw [execOp_put oj hsj a oi.dst v h1] at hasks; exact hasks, hlets⟩
    refine .inl ?_
    unfold Oper.wp at *
    rw [execOp_put oj hsj a oi.dst v h1] at h
    generalize (execOp a.eval oj).run P w = r at *
    cases r with
    | ok n w' =>
      cases n <;> simp only [Oper.upon] at h ⊢
      case value u => exact ⟨keep a hy u, by rw [← Act.put_comm a v u h2]; exact h⟩
      case skip => exact ⟨keep a hy _, by rw [← Act.put_comm a v undef h2]; exact h⟩
      case defer d =>
        refine ⟨keep _ (keepD d) _, ?_⟩
        rw [← Act.put_comm _ v undef h2, ← Act.put_defers]
        exact h
      case enter f args =>
        refine Calls.mono h fun e w'' he => ?_
        cases e with
        | returned u => exact ⟨keep a hy u, by rw [← Act.put_comm a v u h2]; exact he⟩
        | panicked c => exact hQ _ _ _ he
        | outgrown => exact he
      case row row args => exact Rows.mono h fun u w'' he => ⟨keep a hy u, by rw [← Act.put_comm a v u h2]; exact he⟩
    | halt x w' =>
      cases x <;> simp only [Oper.upon] at h ⊢
      case panic u => exact hQ _ _ _ h
  · rename_i hw
    simp only [hw] at h
    exact ⟨keep a hy _, by rw [← Act.put_comm a v undef h2]; exact h⟩
theorem need_of {i j : Nat} {oi : Oper} (hi : ops[i]? = some oi) (hm : isMem oi.op = true) (hij : i ≠ j) (h1 : reach .any ops ops.size j i = false) (h2 : reach .any ops ops.size i j = false) : need ops j = true := by
  unfold need
  rw [List.any_eq_true]
  refine ⟨i, List.mem_range.2 (Array.getElem?_eq_some_iff.1 hi).1, ?_⟩
  simp only [hi, hm, h1, h2, Bool.not_false, Bool.and_true]
  rw [Bool.not_eq_true', ← Bool.not_eq_true]
  exact fun h => hij (Nat.eq_of_beq_eq_true h)
theorem anyS.first {i : Nat} {oi : Oper} (hi : ops[i]? = some oi) (hT : ∀ w w', Grows w w' → T w → T w') (hsel : ∀ (j : Nat) (o : Oper) cs b, ops[j]? = some o → o.op ≠ .select cs b) (hQ : ∀ c a w, Q (.panic c) (a.put oi.dst v) w → Q (.panic c) a w) :
    ∀ (q : Nat) (listed : Array Bool) (a : Act) (w : World), Down ops listed →
      (∀ j oj, ops[j]? = some oj → j ≠ i → listed.getD j true = false → reach .any ops ops.size j i = false → oi.apart ops oj = true) →
      i ∈ Region.ready .any ops listed → QA P ops T oi v a → (isMem oi.op = true → T w) →
      anyS P ops Q T q (listed.setIfInBounds i true) (a.put oi.dst v) w → anyS P ops Q T (q + 1) listed a w := by
  intro q
  induction q with
  | zero =>
    intro listed a w _ _ hr hy hS H w0 hg
    refine ⟨fun h => (by rw [h] at hr; cases hr), fun j hj => ?_⟩
    by_cases hji : j = i
    · subst hji; exact hy.wpOp hi (fun hm => hT _ _ hg (hS hm)) fun w' hg' => ⟨fun _ => hT _ _ hg', H.grows (hg.trans hg')⟩
    · have := ready_mono hj hji
      rw [H.1] at this
      cases this
  | succ q ih =>
    intro listed a w hd hfree hr hy hS H w0 hg
    refine ⟨fun h => (by rw [h] at hr; cases hr), fun j hj => ?_⟩
    by_cases hji : j = i
    · subst hji; exact hy.wpOp hi (fun hm => hT _ _ hg (hS hm)) fun w' hg' => ⟨fun _ => hT _ _ hg', H.grows (hg.trans hg')⟩
    · have h1 := (H w0 hg).2 j (ready_mono hj hji)
      obtain ⟨hjun, oj, hoj, hall⟩ := mem_ready.1 hj
      obtain ⟨hiun, oi', hoi, halli⟩ := mem_ready.1 hr
      have un : ∀ k, listed.getD k true = false → listed.getD k false = false := fun k h => by
        rcases Nat.lt_or_ge k listed.size with h' | h'
        · simp [h'] at h ⊢; exact h
        · simp [Array.getElem?_eq_none h'] at h
      have hr1 : reach .any ops ops.size j i = false := hd.reach (un i hiun) _ j oj hoj hall
      have hr2 : reach .any ops ops.size i j = false := hd.reach (un j hjun) _ i oi' hoi halli
      have h2 := wpOp_putQ hoj (hfree j oj hoj hji hjun hr1) (fun cs b => hsel i oi cs b hi) (fun cs b => hsel j oj cs b hoj) hQ hy h1
      have hfree' : ∀ k ok, ops[k]? = some ok → k ≠ i → (listed.setIfInBounds j true).getD k true = false → reach .any ops ops.size k i = false → oi.apart ops ok = true := fun k ok hk hki hun hno => by
        refine hfree k ok hk hki ?_ hno
        by_cases hjk : j = k
        · subst hjk; exact hjun
        · rw [getD_set_ne true hjk] at hun; exact hun
      refine wpOp_mono (fun a' w' h3 => ⟨h3.2.1, ih (listed.setIfInBounds j true) a' w' (hd.set hj) hfree' (ready_mono hr (Ne.symm hji)) h3.1 (fun hm => h3.2.1 (need_of hi hm (Ne.symm hji) hr1 hr2) (hT _ _ hg (hS hm))) ?_⟩) h2
      rw [Array.setIfInBounds_comm _ _ hji]
      exact h3.2.2
def RD (P : Program) (n : Nat) (ops : Array Oper) (T : List HP) (q : Nat) (listed : Array Bool) (C : Env → List HP → Prop) (e : Env) (L : List HP) : Prop :=
  ∀ (F : HP) (a : Act) w (Q : Exit → Act → World → Prop), (∀ c (a a' : Act) w, Q (.panic c) a w → Q (.panic c) a' w) → Down ops listed → Ag n e a.tmps → Sat w (L ++ [F]) →
    (∀ e' L' (a' : Act) w', C e' L' → Ag n e' a'.tmps → a'.defers = a.defers → Sat w' (L' ++ [F]) → Q .normal a' w') → anyS P ops Q (fun w => Sat w T) q listed a w
variable {q : Nat} {listed : Array Bool} {TL : List HP}
theorem RD.done (hr : Region.ready .any ops listed = []) (h : C e L) : RD P n ops TL q listed C e L := fun F a w Q _ _ h1 h2 h3 => by
  cases q with
  | zero => exact ⟨hr, fun w' hg => h3 e L a w' h h1 rfl (h2.grows hg)⟩
  | succ q => exact fun w' hg => ⟨fun _ => h3 e L a w' h h1 rfl (h2.grows hg), fun i hi => by rw [hr] at hi; cases hi⟩
theorem takeOK.spec {i : Nat} {oi : Oper} (hi : ops[i]? = some oi) (h : takeOK ops listed i = true) : i ∈ Region.ready .any ops listed ∧ ∀ (j : Nat) oj, ops[j]? = some oj → j ≠ i → listed.getD j true = false → reach .any ops ops.size j i = false → oi.apart ops oj = true := by
  unfold takeOK at h
  rw [hi] at h
  simp only [Bool.and_eq_true, List.all_eq_true, List.mem_range] at h
  refine ⟨by simpa using h.1, fun j oj hj hji hl hr => ?_⟩
  have := h.2 j (Array.getElem?_eq_some_iff.1 hj).1
  simp only [hj, hl, hr, Bool.or_false] at this
  rcases Bool.or_eq_true_iff.1 this with h | h
  · exact absurd (Nat.eq_of_beq_eq_true h) hji
  · exact h
theorem RD.takeA {i : Nat} {oi : Oper} (hi : ops[i]? = some oi) (hs : Region.noSelect ops = true) (hk : takeOK ops listed i = true) (hf : fits n oi.dst = true)
    (hy : ∀ a : Act, Ag n e a.tmps → QA P ops (fun w => Sat w TL) oi v a) (hT : isMem oi.op = true → Ent L TL)
    (h : RD P n ops TL q (listed.setIfInBounds i true) C (puts e oi.dst v) L) : RD P n ops TL (q + 1) listed C e L := fun F a w Q hQ hd h1 h2 h3 => by
  obtain ⟨hr, hfree⟩ := takeOK.spec hi hk
  refine anyS.first (v := v) hi (fun _ _ hg hs => hs.grows hg) (Region.noSelect_spec hs) (fun c a w => hQ c _ _ w) q listed a w hd hfree hr (hy a h1) (fun hm => h2.fst.ent (hT hm)) ?_
  refine h F (a.put oi.dst v) w Q hQ (hd.set hr) (h1.put hf v) h2 fun e' L' a' w' hc ha hdd hs' => h3 e' L' a' w' hc ha ?_ hs'
  rw [hdd]; cases oi.dst <;> rfl
def wn (ops : Array Oper) (e : Env) (o : Oper) : Option Bool :=
  match o.guard with
  | none => some true
  | some (j, b) => match (ops[j]?).bind (·.dst) with
    | none => none
    | some t => match look e t with
      | some (.bool c) => some (c == b)
      | some _ => some false
      | none => none
theorem wn_wanted {a : Act} {x : Bool} (h1 : Ag n e a.tmps) (h : wn ops e o = some x) : Region.wanted o (yielded ops a.tmps) = x := by
  unfold wn at h
  unfold Region.wanted
  cases hg : o.guard with
  | none => rw [hg] at h; injection h
  | some gb =>
    obtain ⟨j, b⟩ := gb
    simp only [hg] at h ⊢
    cases hj : (ops[j]?).bind (·.dst) with
    | none => simp only [hj] at h; cases h
    | some t =>
      simp only [hj] at h
      cases hl : look e t with
      | none => simp only [hl] at h; cases h
      | some v =>
        simp only [hl] at h
        have := h1.2 t v hl
        cases v <;> (injection h with h; subst h; simp only [yielded, hj, Option.bind_some, this]; rfl)
theorem RS.guardW {P : Program} {n : Nat} {ops : Array Oper} {rest : List Oper} {C : Env → List HP → Prop} {e : Env} {L : List HP} {d : Nat} {o : Oper} (hg : wn ops e o = some false) (ho : o.dst = some d) (hf : Nat.blt d n = true)
    (h : RS P n ops rest C ((d, undef) :: e) L) : RS P n ops (o :: rest) C e L := fun F a w Q h1 h2 h3 => by
  unfold wpList
  rw [if_neg (by rw [wn_wanted h1 hg]; exact Bool.false_ne_true)]
  rw [ho]
  exact h F (a.put (some d) undef) w Q (h1.put (d := some d) hf undef) h2 h3
theorem RD.take {i d : Nat} {oi : Oper} (hi : ops[i]? = some oi) (hs : Region.noSelect ops = true) (hk : takeOK ops listed i = true) (hg : wn ops e oi = some true) (hd : oi.dst = some d) (hf : Nat.blt d n = true)
    (hm : isMem oi.op = true) (hy : QOp P n e TL oi v) (hL : Ent L TL) (h : RD P n ops TL q (listed.setIfInBounds i true) C ((d, v) :: e) L) : RD P n ops TL (q + 1) listed C e L :=
  .takeA (v := v) hi hs hk (by rw [hd]; exact hf) (fun a ha => .inl ⟨wn_wanted ha hg, fun w hw => hy w a ha (hw hm)⟩) (fun _ => hL) (by rw [hd]; exact h)
theorem RD.takeP {i d : Nat} {oi : Oper} (hi : ops[i]? = some oi) (hs : Region.noSelect ops = true) (hk : takeOK ops listed i = true) (hg : wn ops e oi = some true) (hd : oi.dst = some d) (hf : Nat.blt d n = true)
    (hm : isMem oi.op = false) (hy : QOp P n e [] oi v) (h : RD P n ops TL q (listed.setIfInBounds i true) C ((d, v) :: e) L) : RD P n ops TL (q + 1) listed C e L :=
  .takeA (v := v) hi hs hk (by rw [hd]; exact hf) (fun a ha => .inl ⟨wn_wanted ha hg, fun w _ => hy w a ha ⟨fun _ => none, fun _ _ _ h => (nomatch h), trivial⟩⟩) (fun h => by rw [hm] at h; cases h) (by rw [hd]; exact h)
theorem RD.skip {i d : Nat} {oi : Oper} (hi : ops[i]? = some oi) (hs : Region.noSelect ops = true) (hk : takeOK ops listed i = true) (hg : wn ops e oi = some false) (hd : oi.dst = some d) (hf : Nat.blt d n = true)
    (hL : Ent L TL) (h : RD P n ops TL q (listed.setIfInBounds i true) C ((d, undef) :: e) L) : RD P n ops TL (q + 1) listed C e L :=
  .takeA (v := undef) hi hs hk (by rw [hd]; exact hf) (fun a ha => .inr ⟨wn_wanted ha hg, rfl⟩) (fun _ => hL) (by rw [hd]; exact h)
def RA (P : Program) (n : Nat) (ops : Array Oper) (T : List HP) (q : Nat) (listed : Array Bool) (C : Env → List HP → Prop) (e : Env) (L : List HP) (j : Nat) : Prop :=
  ∀ (F : HP) (a : Act) w (Q : Exit → Act → World → Prop), (∀ c (a a' : Act) w, Q (.panic c) a w → Q (.panic c) a' w) → Down ops listed → j ∈ Region.ready .any ops listed → Ag n e a.tmps → Sat w (L ++ [F]) →
    (∀ e' L' (a' : Act) w', C e' L' → Ag n e' a'.tmps → a'.defers = a.defers → Sat w' (L' ++ [F]) → Q .normal a' w') →
    wpOp P ops Q j (fun a' w'' => (need ops j = true → Sat w T → Sat w'' T) ∧ anyS P ops Q (fun w => Sat w T) q (listed.setIfInBounds j true) a' w'') a w
theorem RA.of {j : Nat} {oj : Oper} (hj : ops[j]? = some oj) (hw : wn ops e oj = some true) (hf : fits n oj.dst = true) (h : OpS P n e L oj K) (hn : ∀ v L', K v L' → need ops j = false ∨ Ent L' TL)
    (hk : ∀ v L', K v L' → RD P n ops TL q (listed.setIfInBounds j true) C (puts e oj.dst v) L') : RA P n ops TL q listed C e L j := fun F a w Q hQ hd hr h1 h2 h3 => by
  unfold wpOp
  simp only [hj]
  rw [wn_wanted h1 hw, if_pos rfl]
  refine .inl (h F w a _ Q h1 h2 fun v w' L' hv hs => ⟨fun hne _ => ?_, hk v L' hv F (a.put oj.dst v) w' Q hQ (hd.set hr) (h1.put hf v) hs fun e' L'' a' w'' hc ha hdd hs' => h3 e' L'' a' w'' hc ha ?_ hs'⟩)
  · rcases hn v L' hv with h | h
    · rw [h] at hne; cases hne
    · exact hs.fst.ent h
  · rw [hdd]; cases oj.dst <;> rfl
theorem RA.act {j d : Nat} {oj : Oper} (hj : ops[j]? = some oj) (hw : wn ops e oj = some true) (hd : oj.dst = some d) (hf : Nat.blt d n = true) (hn : need ops j = false) (h : OpS P n e L oj K)
    (hk : ∀ v L', K v L' → RD P n ops TL q (listed.setIfInBounds j true) C ((d, v) :: e) L') : RA P n ops TL q listed C e L j :=
  .of hj hw (by rw [hd]; exact hf) h (fun _ _ _ => .inl hn) fun v L' hv => by rw [hd]; exact hk v L' hv
theorem RA.act0 {j : Nat} {oj : Oper} {L' : List HP} (hj : ops[j]? = some oj) (hw : wn ops e oj = some true) (hd : oj.dst = none) (hn : need ops j = false) (h : OpS P n e L oj (Det v L'))
    (hk : RD P n ops TL q (listed.setIfInBounds j true) C e L') : RA P n ops TL q listed C e L j :=
  .of hj hw (by rw [hd]; rfl) h (fun _ _ _ => .inl hn) fun v L' hv => by obtain ⟨rfl, rfl⟩ := hv; rw [hd]; exact hk
theorem RA.actS {j d : Nat} {oj : Oper} (hj : ops[j]? = some oj) (hw : wn ops e oj = some true) (hd : oj.dst = some d) (hf : Nat.blt d n = true) (h : OpS P n e L oj K)
    (hk : ∀ v L', K v L' → Ent L' TL ∧ RD P n ops TL q (listed.setIfInBounds j true) C ((d, v) :: e) L') : RA P n ops TL q listed C e L j :=
  .of hj hw (by rw [hd]; exact hf) h (fun v L' hv => .inr (hk v L' hv).1) fun v L' hv => by rw [hd]; exact (hk v L' hv).2
theorem RA.actS0 {j : Nat} {oj : Oper} {L' : List HP} (hj : ops[j]? = some oj) (hw : wn ops e oj = some true) (hd : oj.dst = none) (h : OpS P n e L oj (Det v L')) (hn : Ent L' TL)
    (hk : RD P n ops TL q (listed.setIfInBounds j true) C e L') : RA P n ops TL q listed C e L j :=
  .of hj hw (by rw [hd]; rfl) h (fun _ _ hv => .inr (by obtain ⟨rfl, rfl⟩ := hv; exact hn)) fun v L' hv => by obtain ⟨rfl, rfl⟩ := hv; rw [hd]; exact hk
theorem RD.all {rs : List Nat} (hr : Region.ready .any ops listed = rs) (hne : rs.isEmpty = false) (h : ∀ j ∈ rs, RA P n ops TL q listed C e L j) : RD P n ops TL (q + 1) listed C e L := fun F a w Q hQ hd h1 h2 h3 w' hg =>
  ⟨fun h0 => (by rw [hr] at h0; subst h0; cases hne), fun j hj => h j (hr ▸ hj) F a w' Q hQ hd hj h1 (h2.grows hg) h3⟩
theorem RD.one {j : Nat} (hr : Region.ready .any ops listed = [j]) (h : RA P n ops TL q listed C e L j) : RD P n ops TL (q + 1) listed C e L :=
  .all hr rfl fun i hi => by rw [List.mem_singleton] at hi; rw [hi]; exact h
theorem RD.two {i j : Nat} (hr : Region.ready .any ops listed = [i, j]) (h : RA P n ops TL q listed C e L i) (h2 : RA P n ops TL q listed C e L j) : RD P n ops TL (q + 1) listed C e L :=
  .all hr rfl (fun x hx => by
    rcases List.mem_cons.1 hx with e | hx
    · rw [e]; exact h
    · rw [List.mem_singleton] at hx; rw [hx]; exact h2)
theorem RD.weak {e' : Env} {L' : List HP} (hs : Subs e' e) (hL : Ent L L') (h : RD P n ops TL q listed C e' L') : RD P n ops TL q listed C e L := fun F a w Q hQ hd h1 h2 h3 => h F a w Q hQ hd (h1.sub hs) (h2.entF hL) h3
theorem RD.pure {φ : Prop} (h : φ → RD P n ops TL q listed C e L) : RD P n ops TL q listed C e (pure' φ :: L) := fun F a w Q hQ hd h1 h2 h3 => h h2.pure F a w Q hQ hd h1 (h2.ent (.drop _)) h3
theorem RD.ex {α : Sort _} {p : α → HP} (h : ∀ x, RD P n ops TL q listed C e (p x :: L)) : RD P n ops TL q listed C e ((fun r => ∃ x, p x r) :: L) := fun F a w Q hQ hd h1 h2 h3 =>
  let ⟨x, h4⟩ := Sat.ex h2; h x F a w Q hQ hd h1 h4 h3
theorem RS.pure {φ : Prop} (h : φ → RS P n ops rest C e L) : RS P n ops rest C e (pure' φ :: L) := fun F a w Q h1 h2 h3 => h h2.pure F a w Q h1 (h2.ent (.drop _)) h3
theorem RS.ex {α : Sort _} {p : α → HP} (h : ∀ x, RS P n ops rest C e (p x :: L)) : RS P n ops rest C e ((fun r => ∃ x, p x r) :: L) := fun F a w Q h1 h2 h3 => let ⟨x, h4⟩ := Sat.ex h2; h x F a w Q h1 h4 h3
theorem W.draw {f id : Nat} {R : Fin} {k : List Item} {ds : List Deferred} (hm : P.follows .mixedOrders = true) (T : List HP) (h : RD P n ops T ops.size (Array.replicate ops.size false) (fun e L => W P f n R k e ds L) e L) :
    W P f n R (.code (.region id ops true) :: k) e ds L := fun F b cs t w h1 h2 h3 h4 => by
  have hw := h F ⟨t, ds⟩ { w with drawn := w.drawn + 1 } (fun ex a' w' => ex = .normal ∧ Ends P f R F b cs k a' w') (fun _ _ _ _ h => nomatch h.1) (fun j o ho hl => by rw [Array.getD_eq_getD_getElem?, Array.getElem?_replicate] at hl; split at hl <;> cases hl) h3 (h4.grows (.same rfl))
    fun e' L' a' w' hc ha hd hs => ⟨rfl, by obtain ⟨t', ds'⟩ := a'; obtain rfl : ds' = ds := hd; exact hc F b cs t' w' h1 h2 ha hs⟩
  obtain ⟨ex, a', w', ⟨rfl, hq⟩, harr⟩ := wp_region_any (id := id) hm (anyS.any _ _ _ _ hw) b k cs
  obtain ⟨v, w2, fr, L', q1, q2, q3, q4, q5⟩ := hq
  exact ⟨v, w2, fr, L', q1, q2, Steps.trans harr q3, q4, q5⟩
end
end Go.SL
