/-
  A part of the proof of what E53 says at its head.
-/
import Derived.Test.YtocogcgnahbpkaaGreatE3
namespace Go.SL
open Go.RowKit
def isQuiet : Op → Bool
  | .move _ | .assign _ | .pick .. | .nilCheck _ | .binOp .. | .unOp .. | .fieldAddr .. | .field .. | .indexAddr .. | .index .. | .extract .. | .slice .. | .build .. | .load .. | .lookup .. | .convert .. | .makeInterface _ _ | .makeFunc .. | .typeAssert .. => true
  | .call ⟨.builtin .len, _, _⟩ | .call ⟨.builtin .cap, _, _⟩ | .call ⟨.builtin .min, _, _⟩ | .call ⟨.builtin .max, _, _⟩ => true
  | _ => false
def isNew : Op → Bool
  | .alloc _ | .box .. | .buildSlice .. | .makeMap .. => true
  | _ => false
def elemN (i : Nat) : List Nat → Bool
  | [] => false
  | k :: r => bif Nat.beq i k then true else elemN i r
def isQK (qs : List Nat) (ops : Array Oper) (i : Nat) : Bool := elemN i qs || elemN (i + 1000) qs || match ops[i]? with | some o => isQuiet o.op || isNew o.op | none => false
def isT (qs : List Nat) (i : Nat) : Bool := elemN (i + 2000) qs
section
variable {P : Program} {n : Nat} {e : Env} {L T : List HP} {Tw S : World → Prop} {o : Oper} {v : Value} {K : Fin} {ops : Array Oper} {C : Env → List HP → Prop} {Q : Exit → Act → World → Prop} {qs : List Nat} {listed : Array Bool} {q : Nat}
def anyG (P : Program) (Tw : World → Prop) (qs : List Nat) (ops : Array Oper) (Q : Exit → Act → World → Prop) : Nat → Array Bool → Act → World → Prop
  | 0, listed, a, w => Region.ready .any ops listed = [] ∧ ∀ w', Grows w w' → Q .normal a w'
  | q + 1, listed, a, w => ∀ w', Grows w w' → (Region.ready .any ops listed = [] → Q .normal a w') ∧
    ∀ i ∈ Region.ready .any ops listed, wpOp P ops Q i (fun a' w'' => ((isQK qs ops i = true → Grows w' w'') ∧ (Tw w' → Tw w'')) ∧ anyG P Tw qs ops Q q (listed.setIfInBounds i true) a' w'') a w'
theorem anyG.any : ∀ (q : Nat) (listed : Array Bool) (a : Act) (w : World), anyG P Tw qs ops Q q listed a w → wpAny P .any ops Q q listed a w
  | 0, _, _, _, h => ⟨h.1, h.2 _ (.refl _)⟩
  | q + 1, _, _, _, h => ⟨(h _ (.refl _)).1, fun i hi => wpOp_mono (fun a' w' h' => anyG.any q _ a' w' h'.2) ((h _ (.refl _)).2 i hi)⟩
theorem anyG.grows {w w' : World} (hg : Grows w w') : ∀ {q : Nat} {listed : Array Bool} {a : Act}, anyG P Tw qs ops Q q listed a w → anyG P Tw qs ops Q q listed a w'
  | 0, _, _, h => ⟨h.1, fun w2 h2 => h.2 w2 (hg.trans h2)⟩
  | _ + 1, _, _, h => fun w2 h2 => h w2 (hg.trans h2)
def QG (P : Program) (ops : Array Oper) (o : Oper) (v : Value) (a : Act) (S : World → Prop) : Prop :=
  (Region.wanted o (yielded ops a.tmps) = true ∧ ∀ w', (isMem o.op = true → S w') → QRun P v w' ((execOp a.eval o).run P w')) ∨ (Region.wanted o (yielded ops a.tmps) = false ∧ v = undef)
theorem QG.same {a a' : Act} (hy : QG P ops o v a S) (he : execOp a'.eval o = execOp a.eval o) (hw : Region.wanted o (yielded ops a'.tmps) = Region.wanted o (yielded ops a.tmps)) : QG P ops o v a' S := by
  unfold QG at *; rw [he, hw]; exact hy
theorem QG.wpOp {i : Nat} {oi : Oper} {a : Act} (hi : ops[i]? = some oi) {w : World} (hy : QG P ops oi v a S) (hs : isMem oi.op = true → S w) {N : Act → World → Prop} (h : ∀ w', Grows w w' → N (a.put oi.dst v) w') : wpOp P ops Q i N a w := by
  unfold Go.wpOp
  simp only [hi]
  rcases hy with ⟨hw, hv⟩ | ⟨hw, rfl⟩
  · simp only [hw, if_true]; exact .inl ((hv w hs).wp h)
  · simp only [hw, Bool.false_eq_true, if_false]; exact h w (.refl w)
theorem wpOp_putG {j : Nat} {oi oj : Oper} (hj : ops[j]? = some oj) (hap : oi.apart ops oj = true) (hsi : ∀ cs b, oi.op ≠ .select cs b) (hsj : ∀ cs b, oj.op ≠ .select cs b)
    (hQ : ∀ c a w, Q (.panic c) (a.put oi.dst v) w → Q (.panic c) a w) {N : Act → World → Prop} {a : Act} {w : World} (hy : QG P ops oi v a S) (h : wpOp P ops Q j N (a.put oi.dst v) w) :
    wpOp P ops Q j (fun a' w' => QG P ops oi v a' S ∧ N (a'.put oi.dst v) w') a w := by
  obtain ⟨h1, h2, h3⟩ := Oper.apart_spec hap
  have keep : ∀ (a : Act), QG P ops oi v a S → ∀ u, QG P ops oi v (a.put oj.dst u) S := fun a hy u => hy.same (execOp_put oi hsi a oj.dst u h3) (wanted_put oi a oj.dst u h3)
  have keepD : ∀ d, QG P ops oi v { a with defers := d :: a.defers } S := fun d => hy.same rfl rfl
  unfold wpOp at *
  simp only [hj] at *
  rw [wanted_put oj a oi.dst v h1] at h
  split
  · rename_i hw
    simp only [hw, if_true] at h
    rcases h with h | ⟨hasks, hlets⟩
    case inr => exact .inr ⟨by unfold Oper.asks at *; rw [execOp_put oj hsj a oi.dst v h1] at hasks; exact hasks, hlets⟩
    refine .inl ?_
    unfold Oper.wp at *
    rw [execOp_put oj hsj a oi.dst v h1] at h
    generalize (execOp a.eval oj).run P w = r at *
    cases r with
    | ok n w' =>
      cases n <;> simp only [Oper.upon] at h ⊢
      case value u => exact ⟨keep a hy u, by rw [← Act.put_comm a v u h2]; exact h⟩
      case skip => exact ⟨keep a hy _, by rw [← Act.put_comm a v undef h2]; exact h⟩
      case defer d =>
        refine ⟨keep _ (keepD d) _, ?_⟩
        rw [← Act.put_comm _ v undef h2, ← Act.put_defers]
        exact h
      case enter f args =>
        refine Calls.mono h fun e w'' he => ?_
        cases e with
        | returned u => exact ⟨keep a hy u, by rw [← Act.put_comm a v u h2]; exact he⟩
        | panicked c => exact hQ _ _ _ he
        | outgrown => exact he
      case row row args => exact Rows.mono h fun u w'' he => ⟨keep a hy u, by rw [← Act.put_comm a v u h2]; exact he⟩
    | halt x w' =>
      cases x <;> simp only [Oper.upon] at h ⊢
      case panic u => exact hQ _ _ _ h
  · rename_i hw
    simp only [hw] at h
    exact ⟨keep a hy _, by rw [← Act.put_comm a v undef h2]; exact h⟩
def maskG (acc : Array Nat) : List Edge → Nat
  | [] => 0
  | x :: r => bif Region.binds .any x then (2 ^ x.on ||| acc.getD x.on 0) ||| maskG acc r else maskG acc r
def ancG : List Oper → Array Nat → Array Nat
  | [], acc => acc
  | o :: r, acc => ancG r (acc.push (maskG acc o.after.toList))
theorem maskG_bit {acc : Array Nat} {i : Nat} : ∀ {l : List Edge}, (maskG acc l).testBit i = true → ∃ x ∈ l, Region.binds .any x = true ∧ (x.on = i ∨ (acc.getD x.on 0).testBit i = true)
  | [], h => by simp [maskG] at h
  | x :: r, h => by
    unfold maskG at h
    cases hb : Region.binds .any x with
    | false => rw [hb] at h; obtain ⟨y, hy, h'⟩ := maskG_bit (l := r) h; exact ⟨y, List.mem_cons_of_mem _ hy, h'⟩
    | true =>
      rw [hb] at h
      simp only [cond_true, Nat.testBit_or, Bool.or_eq_true] at h
      rcases h with (h | h) | h
      · rw [Nat.testBit_two_pow] at h; exact ⟨x, List.mem_cons_self .., hb, .inl (of_decide_eq_true h)⟩
      · exact ⟨x, List.mem_cons_self .., hb, .inr h⟩
      · obtain ⟨y, hy, h'⟩ := maskG_bit (l := r) h; exact ⟨y, List.mem_cons_of_mem _ hy, h'⟩
def AncOK (ops : Array Oper) (A : Array Nat) : Prop := ∀ (listed : Array Bool), Down ops listed → ∀ (j : Nat) (o : Oper) (i : Nat), ops[j]? = some o → (A.getD j 0).testBit i = true → (∀ x ∈ o.after, Region.binds .any x = true → listed.getD x.on false = true) → listed.getD i false = true
theorem ancG_ok : ∀ (l : List Oper) (k : Nat) (acc : Array Nat), acc.size = k → (∀ j, l[j]? = ops[k + j]?) → AncOK ops acc → AncOK ops (ancG l acc)
  | [], _, _, _, _, h => h
  | o :: r, k, acc, hk, hl, h => by
    refine ancG_ok r (k + 1) _ (by simp [hk]) (fun j => by have := hl (j + 1); simpa [Nat.add_assoc, Nat.add_comm 1 j] using this) ?_
    intro listed hd j oj i hj hb hall
    by_cases hjk : j = k
    · subst hjk
      have ho : ops[j]? = some o := by simpa using (hl 0).symm
      rw [ho] at hj; injection hj with hj; subst hj
      have e : (acc.push (maskG acc o.after.toList)).getD j 0 = maskG acc o.after.toList := by simp [← hk]
      rw [e] at hb
      obtain ⟨x, hx, hbx, h'⟩ := maskG_bit hb
      have hx' : x ∈ o.after := by simpa using hx
      have hlx := hall x hx' hbx
      rcases h' with rfl | h'
      · exact hlx
      · cases ho2 : ops[x.on]? with
        | none =>
          exfalso
          have h1 : ops.size ≤ x.on := by simpa using ho2
          have h2 : j < ops.size := (Array.getElem?_eq_some_iff.1 ho).1
          rw [Array.getD_eq_getD_getElem?, Array.getElem?_eq_none (by omega)] at h'
          simp at h'
        | some o2 => exact h listed hd x.on o2 i ho2 h' (fun y hy hby => hd x.on o2 ho2 hlx y hy hby)
    · refine h listed hd j oj i hj ?_ hall
      rw [Array.getD_eq_getD_getElem?, Array.getElem?_push] at hb
      rw [if_neg (by omega)] at hb
      rw [Array.getD_eq_getD_getElem?]; exact hb
theorem anc_ok (ops : Array Oper) : AncOK ops (ancG ops.toList #[]) := ancG_ok ops.toList 0 #[] rfl (fun j => by simp) fun _ _ j _ i _ h => by simp at h
def anc (ops : Array Oper) (j i : Nat) : Bool := ((ancG ops.toList #[]).getD j 0).testBit i
theorem anyG.first {i : Nat} {oi : Oper} (hi : ops[i]? = some oi) (hT : ∀ w w', Grows w w' → Tw w → Tw w') (hS : ∀ w w', Grows w w' → S w → S w') (hsel : ∀ (j : Nat) (o : Oper) cs b, ops[j]? = some o → o.op ≠ .select cs b) (hQ : ∀ c a w, Q (.panic c) (a.put oi.dst v) w → Q (.panic c) a w) :
    ∀ (q : Nat) (listed : Array Bool) (a : Act) (w : World), Down ops listed →
      (∀ j oj, ops[j]? = some oj → j ≠ i → listed.getD j true = false → anc ops j i = false → oi.apart ops oj = true ∧ (isMem oi.op = true → isQK qs ops j = true ∨ S = Tw)) →
      i ∈ Region.ready .any ops listed → QG P ops oi v a S → (isMem oi.op = true → S w) → anyG P Tw qs ops Q q (listed.setIfInBounds i true) (a.put oi.dst v) w → anyG P Tw qs ops Q (q + 1) listed a w := by
  intro q
  induction q with
  | zero =>
    intro listed a w _ _ hr hy hs H w0 hg
    refine ⟨fun h => (by rw [h] at hr; cases hr), fun j hj => ?_⟩
    by_cases hji : j = i
    · subst hji; exact hy.wpOp hi (fun hm => hS _ _ hg (hs hm)) fun w' hg' => ⟨⟨fun _ => hg', hT _ _ hg'⟩, H.grows (hg.trans hg')⟩
    · have := ready_mono hj hji
      rw [H.1] at this
      cases this
  | succ q ih =>
    intro listed a w hd hfree hr hy hs H w0 hg
    refine ⟨fun h => (by rw [h] at hr; cases hr), fun j hj => ?_⟩
    by_cases hji : j = i
    · subst hji; exact hy.wpOp hi (fun hm => hS _ _ hg (hs hm)) fun w' hg' => ⟨⟨fun _ => hg', hT _ _ hg'⟩, H.grows (hg.trans hg')⟩
    · have h1 := (H w0 hg).2 j (ready_mono hj hji)
      obtain ⟨hjun, oj, hoj, hall⟩ := mem_ready.1 hj
      obtain ⟨hiun, oi', hoi, halli⟩ := mem_ready.1 hr
      have un : ∀ k, listed.getD k true = false → listed.getD k false = false := fun k h => by
        rcases Nat.lt_or_ge k listed.size with h' | h'
        · simp [h'] at h ⊢; exact h
        · simp [Array.getElem?_eq_none h'] at h
      have hr1 : anc ops j i = false := by
        rw [← Bool.not_eq_true]; intro hb; have := anc_ok ops listed hd j oj i hoj hb hall; rw [un i hiun] at this; cases this
      obtain ⟨hap, hqk⟩ := hfree j oj hoj hji hjun hr1
      have h2 := wpOp_putG hoj hap (fun cs b => hsel i oi cs b hi) (fun cs b => hsel j oj cs b hoj) hQ hy h1
      have hfree' : ∀ k ok, ops[k]? = some ok → k ≠ i → (listed.setIfInBounds j true).getD k true = false → anc ops k i = false → oi.apart ops ok = true ∧ (isMem oi.op = true → isQK qs ops k = true ∨ S = Tw) := fun k ok hk hki hun hno => by
        refine hfree k ok hk hki ?_ hno
        by_cases hjk : j = k
        · subst hjk; exact hjun
        · rw [getD_set_ne true hjk] at hun; exact hun
      refine wpOp_mono (fun a' w' h3 => ⟨h3.2.1, ih (listed.setIfInBounds j true) a' w' (hd.set hj) hfree' (ready_mono hr (Ne.symm hji)) h3.1 (fun hm => ?_) ?_⟩) h2
      · have h0 := hS _ _ hg (hs hm)
        rcases hqk hm with hq | hq
        · exact hS _ _ (h3.2.1.1 hq) h0
        · subst hq; exact h3.2.1.2 h0
      rw [Array.setIfInBounds_comm _ _ hji]
      exact h3.2.2
inductive Pl where
  | nil : Pl
  | q (i : Nat) (r : Pl) : Pl
  | a (j : Nat) (r : Pl) : Pl
  | two (i j : Nat) (r s : Pl) : Pl
  | three (i j k : Nat) (r s t : Pl) : Pl
def plen : Pl → Nat
  | .nil => 0
  | .q _ r => plen r + 1
  | .a _ r => plen r + 1
  | .two _ _ r _ => plen r + 1
  | .three _ _ _ r _ _ => plen r + 1
def takeG (qs : List Nat) (ops : Array Oper) (A : Array Nat) (listed : Array Bool) (i : Nat) : Bool :=
  (Region.ready .any ops listed).contains i && match ops[i]? with
    | none => false
    | some oi => (List.range ops.size).all fun j => match ops[j]? with
      | none => true
      | some oj => Nat.beq j i || listed.getD j true || (A.getD j 0).testBit i || (oi.apart ops oj && (!(isMem oi.op) || isT qs i || isQK qs ops j))
def okG (qs : List Nat) (ops : Array Oper) (A : Array Nat) : Array Bool → Pl → Bool
  | listed, .nil => (Region.ready .any ops listed).isEmpty
  | listed, .q i r => takeG qs ops A listed i && okG qs ops A (listed.setIfInBounds i true) r
  | listed, .a j r => (Region.ready .any ops listed == [j]) && okG qs ops A (listed.setIfInBounds j true) r
  | listed, .two i j r s => (Region.ready .any ops listed == [i, j]) && Nat.beq (plen r) (plen s) && okG qs ops A (listed.setIfInBounds i true) r && okG qs ops A (listed.setIfInBounds j true) s
  | listed, .three i j k r s t => (Region.ready .any ops listed == [i, j, k]) && (Nat.beq (plen r) (plen s) && Nat.beq (plen r) (plen t)) && okG qs ops A (listed.setIfInBounds i true) r && okG qs ops A (listed.setIfInBounds j true) s && okG qs ops A (listed.setIfInBounds k true) t
def dmG : List Edge → Nat
  | [] => 0
  | x :: r => bif Region.binds .any x then 2 ^ x.on ||| dmG r else dmG r
theorem dmG_bit {i : Nat} : ∀ {l : List Edge}, (dmG l).testBit i = true ↔ ∃ x ∈ l, Region.binds .any x = true ∧ x.on = i
  | [] => by simp [dmG]
  | x :: r => by
    unfold dmG
    cases hb : Region.binds .any x with
    | false => simp only [cond_false, dmG_bit (l := r), List.mem_cons, exists_eq_or_imp, hb, Bool.false_eq_true, false_and, false_or]
    | true => simp only [cond_true, Nat.testBit_or, Bool.or_eq_true, dmG_bit (l := r), List.mem_cons, exists_eq_or_imp, hb, true_and, Nat.testBit_two_pow, decide_eq_true_eq]
def rdyM (D : Array Nat) (m i : Nat) : Bool := !(m.testBit i) && Nat.beq (D.getD i 0 &&& m) (D.getD i 0)
def rdyL (D : Array Nat) (m sz : Nat) : List Nat := (List.range sz).filter fun k => rdyM D m k
def okM (qs : List Nat) (ops : Array Oper) (A D : Array Nat) : Nat → Pl → Bool
  | m, .nil => (List.range ops.size).all fun k => !(rdyM D m k)
  | m, .q i r => rdyM D m i && (match ops[i]? with
    | none => false
    | some oi => (List.range ops.size).all fun j => match ops[j]? with
      | none => true
      | some oj => Nat.beq j i || m.testBit j || (A.getD j 0).testBit i || (oi.apart ops oj && (!(isMem oi.op) || isT qs i || isQK qs ops j))) && okM qs ops A D (m ||| 2 ^ i) r
  | m, .a j r => rdyM D m j && Nat.blt j ops.size && ((List.range ops.size).all fun k => Nat.beq k j || !(rdyM D m k)) && okM qs ops A D (m ||| 2 ^ j) r
  | m, .two i j r s => (rdyL D m ops.size == [i, j]) && Nat.beq (plen r) (plen s) && okM qs ops A D (m ||| 2 ^ i) r && okM qs ops A D (m ||| 2 ^ j) s
  | m, .three i j k r s t => (rdyL D m ops.size == [i, j, k]) && (Nat.beq (plen r) (plen s) && Nat.beq (plen r) (plen t)) && okM qs ops A D (m ||| 2 ^ i) r && okM qs ops A D (m ||| 2 ^ j) s && okM qs ops A D (m ||| 2 ^ k) t
structure Rep (ops : Array Oper) (listed : Array Bool) (m : Nat) : Prop where
  size : listed.size = ops.size
  bit : ∀ k, listed.getD k false = m.testBit k
theorem Rep.t {m : Nat} (h : Rep ops listed m) {k : Nat} (hk : k < ops.size) : listed.getD k true = m.testBit k := by
  rw [← h.bit k]; have := h.size; simp [show k < listed.size by omega]
theorem Rep.set {m i : Nat} (h : Rep ops listed m) (hi : i < ops.size) : Rep ops (listed.setIfInBounds i true) (m ||| 2 ^ i) := by
  refine ⟨by simp [h.size], fun k => ?_⟩
  rw [Nat.testBit_or, ← h.bit k, Nat.testBit_two_pow]
  by_cases hk : i = k
  · subst hk; simp [h.size, hi]
  · rw [getD_set_ne false hk]; simp [hk]
theorem rdyM_iff {m i : Nat} {D : Array Nat} (hD : D = ops.map fun o => dmG o.after.toList) (h : Rep ops listed m) (hi : i < ops.size) : rdyM D m i = true ↔ i ∈ Region.ready .any ops listed := by
  have hDi : D.getD i 0 = dmG ops[i].after.toList := by subst hD; simp [hi]
  have hsub : ∀ d : Nat, Nat.beq (d &&& m) d = true ↔ ∀ k, d.testBit k = true → m.testBit k = true := fun d => by
    constructor
    · intro hb k hk
      have := congrArg (·.testBit k) (Nat.eq_of_beq_eq_true hb)
      simp only [Nat.testBit_and, hk, Bool.true_and] at this
      exact this
    · intro hk
      have : d &&& m = d := Nat.eq_of_testBit_eq fun k => by
        rw [Nat.testBit_and]
        cases hd : d.testBit k with
        | false => rfl
        | true => rw [hk k hd]; rfl
      rw [this]; exact Nat.beq_refl d
  rw [mem_ready]
  unfold rdyM
  rw [hDi, Bool.and_eq_true, Bool.not_eq_true', hsub, h.t hi]
  refine and_congr_right fun _ => ⟨fun hk => ⟨ops[i], Array.getElem?_eq_getElem hi, fun x hx hb => ?_⟩, fun ⟨o, ho, hall⟩ k hk => ?_⟩
  · rw [h.bit]; exact hk x.on (dmG_bit.2 ⟨x, by simpa using hx, hb, rfl⟩)
  · rw [Array.getElem?_eq_getElem hi] at ho; injection ho with ho; subst ho
    obtain ⟨x, hx, hb, rfl⟩ := dmG_bit.1 hk
    rw [← h.bit]; exact hall x (by simpa using hx) hb
theorem rdyL_eq {m : Nat} {D : Array Nat} (hD : D = ops.map fun o => dmG o.after.toList) (h : Rep ops listed m) : Region.ready .any ops listed = rdyL D m ops.size := by
  unfold rdyL
  have key : ∀ k, k ∈ List.range ops.size → ((k ∈ Region.ready .any ops listed) ↔ rdyM D m k = true) := fun k hk => (rdyM_iff hD h (List.mem_range.1 hk)).symm
  unfold Region.ready at key ⊢
  refine List.filter_congr fun k hk => ?_
  have := key k hk
  rw [List.mem_filter] at this
  have h2 : ∀ a b : Bool, ((a = true) ↔ (b = true)) → a = b := by decide
  exact h2 _ _ ⟨fun h => this.1 ⟨hk, h⟩, fun h => (this.2 h).2⟩
theorem okM_ok {A D : Array Nat} (hD : D = ops.map fun o => dmG o.after.toList) : ∀ (pl : Pl) (m : Nat) (listed : Array Bool), Rep ops listed m → okM qs ops A D m pl = true → okG qs ops A listed pl = true
  | .nil, m, listed, h, hok => by
    simp only [okM, List.all_eq_true, List.mem_range, Bool.not_eq_true'] at hok
    simp only [okG, List.isEmpty_iff]
    refine List.eq_nil_iff_forall_not_mem.2 fun k hk => ?_
    have hks : k < ops.size := by unfold Region.ready at hk; exact List.mem_range.1 (List.mem_filter.1 hk).1
    have := hok k hks
    rw [(rdyM_iff hD h hks).2 hk] at this; cases this
  | .two i j r s, m, listed, h, hok => by
    simp only [okM, Bool.and_eq_true] at hok
    obtain ⟨⟨⟨h1, h2⟩, h3⟩, h4⟩ := hok
    have e := rdyL_eq hD h
    have hi : i < ops.size := by
      have : i ∈ Region.ready .any ops listed := by rw [e, eq_of_beq h1]; simp
      unfold Region.ready at this; exact List.mem_range.1 (List.mem_filter.1 this).1
    have hj : j < ops.size := by
      have : j ∈ Region.ready .any ops listed := by rw [e, eq_of_beq h1]; simp
      unfold Region.ready at this; exact List.mem_range.1 (List.mem_filter.1 this).1
    simp only [okG, Bool.and_eq_true]
    rw [e]
    exact ⟨⟨⟨h1, h2⟩, okM_ok hD r _ _ (h.set hi) h3⟩, okM_ok hD s _ _ (h.set hj) h4⟩
  | .three i j k r s t, m, listed, h, hok => by
    simp only [okM, Bool.and_eq_true] at hok
    obtain ⟨⟨⟨⟨h1, h2⟩, h3⟩, h4⟩, h5⟩ := hok
    have e := rdyL_eq hD h
    have key : ∀ x ∈ [i, j, k], x < ops.size := fun x hx => by
      have : x ∈ Region.ready .any ops listed := by rw [e, eq_of_beq h1]; exact hx
      unfold Region.ready at this; exact List.mem_range.1 (List.mem_filter.1 this).1
    simp only [okG, Bool.and_eq_true]
    rw [e]
    exact ⟨⟨⟨⟨h1, h2⟩, okM_ok hD r _ _ (h.set (key i (by simp))) h3⟩, okM_ok hD s _ _ (h.set (key j (by simp))) h4⟩, okM_ok hD t _ _ (h.set (key k (by simp))) h5⟩
  | .q i r, m, listed, h, hok => by
    simp only [okM, Bool.and_eq_true] at hok
    obtain ⟨⟨h1, h2⟩, h3⟩ := hok
    cases hi : ops[i]? with
    | none => simp only [hi] at h2; cases h2
    | some oi =>
      have his : i < ops.size := (Array.getElem?_eq_some_iff.1 hi).1
      simp only [okG, takeG, hi, Bool.and_eq_true]
      refine ⟨⟨by simpa using (rdyM_iff hD h his).1 h1, ?_⟩, okM_ok hD r _ _ (h.set his) h3⟩
      simp only [hi, List.all_eq_true, List.mem_range] at h2 ⊢
      intro j hj
      have := h2 j hj
      rw [Array.getElem?_eq_getElem hj] at this ⊢
      simpa only [h.t hj] using this
  | .a j r, m, listed, h, hok => by
    simp only [okM, Bool.and_eq_true, Bool.not_eq_true'] at hok
    obtain ⟨⟨⟨h1, hjs⟩, h2⟩, h4⟩ := hok
    have hjs : j < ops.size := by simpa using hjs
    simp only [okG, Bool.and_eq_true, Bool.not_eq_true']
    refine ⟨?_, okM_ok hD r _ _ (h.set hjs) h4⟩
    have hmem := (rdyM_iff hD h hjs).1 h1
    have huniq : ∀ k ∈ Region.ready .any ops listed, k = j := fun k hk => by
      have hks : k < ops.size := by unfold Region.ready at hk; exact List.mem_range.1 (List.mem_filter.1 hk).1
      simp only [List.all_eq_true, List.mem_range] at h2
      rcases Bool.or_eq_true_iff.1 (h2 k hks) with h | h'
      · exact Nat.eq_of_beq_eq_true h
      · rw [(rdyM_iff hD h hks).2 hk] at h'; cases h'
    have hnd : (Region.ready .any ops listed).Nodup := by unfold Region.ready; exact List.nodup_range.filter _
    have : Region.ready .any ops listed = [j] := by
      cases hl : Region.ready .any ops listed with
      | nil => rw [hl] at hmem; cases hmem
      | cons x xs =>
        rw [hl] at huniq hnd
        have hx := huniq x (List.mem_cons_self ..)
        subst hx
        cases xs with
        | nil => rfl
        | cons y ys => have hy := huniq y (by simp); subst hy; simp at hnd
    rw [this]; exact beq_self_eq_true _
theorem fromT {F : HP} : Ent (L ++ [Stars (T ++ [F])]) ((T ++ L) ++ [F]) :=
  (Ent.perm (List.perm_append_comm (l₁ := L) (l₂ := [Stars (T ++ [F])]))).trans ((Ent.star (l := T ++ [F]) (m := L)).trans (Ent.perm (by
    rw [List.append_assoc, List.append_assoc]; exact List.Perm.append_left T List.perm_append_comm)))
theorem toT {F : HP} : Ent ((T ++ L) ++ [F]) (L ++ [Stars (T ++ [F])]) :=
  (Ent.perm (by rw [List.append_assoc]; exact (List.Perm.append_left T (List.perm_append_comm (l₁ := L) (l₂ := [F]))).trans (by rw [← List.append_assoc]))).trans ((Ent.unstar (l := T ++ [F]) (m := L)).trans (Ent.perm (List.perm_append_comm (l₁ := [Stars (T ++ [F])]) (l₂ := L))))
theorem Sat.ofT {F : HP} {w : World} (h : Sat w (L ++ [Stars (T ++ [F])])) : Sat w T := by
  have := h.ent fromT; rw [List.append_assoc] at this; exact this.fst
def RG (P : Program) (n : Nat) (qs : List Nat) (T : List HP) (ops : Array Oper) (pl : Pl) (C : Env → List HP → Prop) (e : Env) (L : List HP) : Prop :=
  ∀ (listed : Array Bool) (F : HP) (a : Act) w (Q : Exit → Act → World → Prop), Region.noSelect ops = true → okG qs ops (ancG ops.toList #[]) listed pl = true → (∀ c (a a' : Act) w, Q (.panic c) a w → Q (.panic c) a' w) → Down ops listed → Ag n e a.tmps → Sat w (L ++ [Stars (T ++ [F])]) →
    (∀ e' L' (a' : Act) w', C e' L' → Ag n e' a'.tmps → a'.defers = a.defers → Sat w' (L' ++ [F]) → Q .normal a' w') → anyG P (fun w => Sat w T) qs ops Q (plen pl) listed a w
theorem takeG.spec {i : Nat} {oi : Oper} (hi : ops[i]? = some oi) (h : takeG qs ops (ancG ops.toList #[]) listed i = true) : i ∈ Region.ready .any ops listed ∧
    ∀ (j : Nat) oj, ops[j]? = some oj → j ≠ i → listed.getD j true = false → anc ops j i = false → oi.apart ops oj = true ∧ (isMem oi.op = true → isQK qs ops j = true ∨ isT qs i = true) := by
  unfold takeG at h
  rw [hi] at h
  simp only [Bool.and_eq_true, List.all_eq_true, List.mem_range] at h
  refine ⟨by simpa using h.1, fun j oj hj hji hl hr => ?_⟩
  have := h.2 j (Array.getElem?_eq_some_iff.1 hj).1
  unfold anc at hr
  simp only [hj, hl, hr, Bool.or_false] at this
  rcases Bool.or_eq_true_iff.1 this with h | h
  · exact absurd (Nat.eq_of_beq_eq_true h) hji
  · rw [Bool.and_eq_true] at h
    refine ⟨h.1, fun hm => ?_⟩
    have := h.2
    rw [hm] at this
    simp only [Bool.not_true, Bool.false_or, Bool.or_eq_true] at this
    exact this.symm
theorem RG.nil (h : C e (T ++ L)) : RG P n qs T ops .nil C e L := fun listed F a w Q _ hok _ _ h1 h2 h3 => by
  refine ⟨by simpa [okG] using hok, fun w' hg => h3 e (T ++ L) a w' h h1 rfl ((h2.ent fromT).grows hg)⟩
theorem RG.nil0 (h : C e L) : RG P n qs [] ops .nil C e L := .nil h
theorem RG.nil1 {X : HP} (h : C e (X :: L)) : RG P n qs [X] ops .nil C e L := .nil h
theorem RG.nil2 {X Y : HP} (h : C e (X :: Y :: L)) : RG P n qs [X, Y] ops .nil C e L := .nil h
theorem RG.takeS {i : Nat} {oi : Oper} {pl : Pl} (hi : ops[i]? = some oi) (hf : fits n oi.dst = true) (S : World → Prop) (hS : ∀ w w', Grows w w' → S w → S w') (hs : ∀ (F : HP) w, Sat w (L ++ [Stars (T ++ [F])]) → S w) (hq : isT qs i = true → S = fun w => Sat w T)
    (hy : ∀ (a : Act), Ag n e a.tmps → QG P ops oi v a S) (h : RG P n qs T ops pl C (puts e oi.dst v) L) : RG P n qs T ops (.q i pl) C e L := fun listed F a w Q hns hok hQ hd h1 h2 h3 => by
  simp only [okG, Bool.and_eq_true] at hok
  obtain ⟨hr, hfree⟩ := takeG.spec hi hok.1
  refine anyG.first (v := v) (S := S) hi (fun _ _ hg hs => hs.grows hg) hS (Region.noSelect_spec hns) (fun c a w => hQ c _ _ w) (plen pl) listed a w hd (fun j oj hj hji hl hr' => ⟨(hfree j oj hj hji hl hr').1, fun hm => ((hfree j oj hj hji hl hr').2 hm).imp id hq⟩) hr (hy a h1) (fun _ => hs F w h2) ?_
  refine h _ F (a.put oi.dst v) w Q hns hok.2 hQ (hd.set hr) (h1.put hf v) h2 fun e' L' a' w' hc ha hdd hs' => h3 e' L' a' w' hc ha ?_ hs'
  rw [hdd]; cases oi.dst <;> rfl
theorem RG.take {i d : Nat} {oi : Oper} {pl : Pl} (hi : ops[i]? = some oi) (hg : wn ops e oi = some true) (hd : oi.dst = some d) (hf : Nat.blt d n = true) (hy : QOp P n e L oi v) (h : RG P n qs T ops pl C ((d, v) :: e) L) (hm : isMem oi.op = true) (ht : isT qs i = false := by exact rfl) :
    RG P n qs T ops (.q i pl) C e L :=
  .takeS (v := v) hi (by rw [hd]; exact hf) (fun w => Sat w L) (fun _ _ hg hs => hs.grows hg) (fun _ _ hs => hs.fst) (fun h => by rw [ht] at h; cases h) (fun a ha => .inl ⟨wn_wanted ha hg, fun w' hw => hy w' a ha (hw hm)⟩) (by rw [hd]; exact h)
theorem RG.takeT {i d : Nat} {oi : Oper} {pl : Pl} (hi : ops[i]? = some oi) (hg : wn ops e oi = some true) (hd : oi.dst = some d) (hf : Nat.blt d n = true) (hy : QOp P n e T oi v) (h : RG P n qs T ops pl C ((d, v) :: e) L) (hm : isMem oi.op = true) :
    RG P n qs T ops (.q i pl) C e L :=
  .takeS (v := v) hi (by rw [hd]; exact hf) (fun w => Sat w T) (fun _ _ hg hs => hs.grows hg) (fun _ _ hs => hs.ofT) (fun _ => rfl) (fun a ha => .inl ⟨wn_wanted ha hg, fun w' hw => hy w' a ha (hw hm)⟩) (by rw [hd]; exact h)
theorem RG.takeP {i d : Nat} {oi : Oper} {pl : Pl} (hi : ops[i]? = some oi) (hg : wn ops e oi = some true) (hd : oi.dst = some d) (hf : Nat.blt d n = true) (hy : QOp P n e [] oi v) (h : RG P n qs T ops pl C ((d, v) :: e) L) :
    RG P n qs T ops (.q i pl) C e L :=
  .takeS (v := v) hi (by rw [hd]; exact hf) (fun w => Sat w T) (fun _ _ hg hs => hs.grows hg) (fun _ _ hs => hs.ofT) (fun _ => rfl) (fun a ha => .inl ⟨wn_wanted ha hg, fun w' _ => hy w' a ha ⟨fun _ => none, fun _ _ _ h => (nomatch h), trivial⟩⟩) (by rw [hd]; exact h)
theorem RG.skip {i d : Nat} {oi : Oper} {pl : Pl} (hi : ops[i]? = some oi) (hg : wn ops e oi = some false) (hd : oi.dst = some d) (hf : Nat.blt d n = true) (h : RG P n qs T ops pl C ((d, undef) :: e) L) :
    RG P n qs T ops (.q i pl) C e L := .takeS (v := undef) hi (by rw [hd]; exact hf) (fun w => Sat w T) (fun _ _ hg hs => hs.grows hg) (fun _ _ hs => hs.ofT) (fun _ => rfl) (fun a ha => .inr ⟨wn_wanted ha hg, rfl⟩) (by rw [hd]; exact h)
theorem RG.actA {j : Nat} {oj : Oper} {pl : Pl} (hj : ops[j]? = some oj) (hw : wn ops e oj = some true) (hf : fits n oj.dst = true) (h : OpS P n e L oj K) (hk : ∀ v L', K v L' → RG P n qs T ops pl C (puts e oj.dst v) L') (hq : isQK qs ops j = false) :
    RG P n qs T ops (.a j pl) C e L := fun listed F a w Q hs hok hQ hd h1 h2 h3 => by
  simp only [okG, Bool.and_eq_true] at hok
  obtain ⟨hr, hok⟩ := hok
  have hr : Region.ready .any ops listed = [j] := by simpa using hr
  intro w0 hg
  refine ⟨fun h0 => (by rw [hr] at h0; cases h0), fun i hi => ?_⟩
  rw [hr, List.mem_singleton] at hi
  subst hi
  have hmem : i ∈ Region.ready .any ops listed := by rw [hr]; exact List.mem_singleton.2 rfl
  unfold wpOp
  simp only [hj]
  rw [wn_wanted h1 hw, if_pos rfl]
  refine .inl (h (Stars (T ++ [F])) w0 a _ Q h1 (h2.grows hg) fun v w' L' hv hs' => ⟨⟨fun hq' => (by rw [hq] at hq'; cases hq'), fun _ => hs'.ofT⟩, hk v L' hv _ F (a.put oj.dst v) w' Q hs hok hQ (hd.set hmem) (h1.put hf v) hs' fun e' L'' a' w'' hc ha hdd hs' => h3 e' L'' a' w'' hc ha ?_ hs'⟩)
  rw [hdd]; cases oj.dst <;> rfl
theorem RG.actN {j d : Nat} {oj : Oper} {pl : Pl} (hj : ops[j]? = some oj) (hw : wn ops e oj = some true) (hd0 : oj.dst = some d) (hf0 : Nat.blt d n = true) (h : OpN P n e L oj K) (hk : ∀ v L', K v L' → RG P n qs T ops pl C ((d, v) :: e) L') :
    RG P n qs T ops (.a j pl) C e L := fun listed F a w Q hs hok hQ hd h1 h2 h3 => by
  simp only [okG, Bool.and_eq_true] at hok
  obtain ⟨hr, hok⟩ := hok
  have hr : Region.ready .any ops listed = [j] := by simpa using hr
  intro w0 hg
  refine ⟨fun h0 => (by rw [hr] at h0; cases h0), fun i hi => ?_⟩
  rw [hr, List.mem_singleton] at hi
  subst hi
  have hmem : i ∈ Region.ready .any ops listed := by rw [hr]; exact List.mem_singleton.2 rfl
  unfold wpOp
  simp only [hj]
  rw [wn_wanted h1 hw, if_pos rfl]
  refine .inl (h (Stars (T ++ [F])) w0 a _ Q h1 (h2.grows hg) fun v w' L' hv hs' hG => ⟨⟨fun _ => hG, fun _ => hs'.ofT⟩, (show RG P n qs T ops pl C (puts e oj.dst v) L' by rw [hd0]; exact hk v L' hv) _ F (a.put oj.dst v) w' Q hs hok hQ (hd.set hmem) (h1.put (by rw [hd0]; exact hf0) v) hs' fun e' L'' a' w'' hc ha hdd hs' => h3 e' L'' a' w'' hc ha ?_ hs'⟩)
  rw [hdd]; cases oj.dst <;> rfl
theorem RG.act {j d : Nat} {oj : Oper} {pl : Pl} (hj : ops[j]? = some oj) (hw : wn ops e oj = some true) (hd : oj.dst = some d) (hf : Nat.blt d n = true) (h : OpS P n e L oj K) (hk : ∀ v L', K v L' → RG P n qs T ops pl C ((d, v) :: e) L') (hq : isQK qs ops j = false := by exact rfl) :
    RG P n qs T ops (.a j pl) C e L := .actA hj hw (by rw [hd]; exact hf) h (fun v L' hv => by rw [hd]; exact hk v L' hv) hq
theorem RG.det {j d : Nat} {oj : Oper} {L' : List HP} {pl : Pl} (hj : ops[j]? = some oj) (hw : wn ops e oj = some true) (hd : oj.dst = some d) (hf : Nat.blt d n = true) (h : OpS P n e L oj (Det v L')) (hk : RG P n qs T ops pl C ((d, v) :: e) L') (hq : isQK qs ops j = false := by exact rfl) :
    RG P n qs T ops (.a j pl) C e L := .act hj hw hd hf h (fun v L' hv => by obtain ⟨rfl, rfl⟩ := hv; exact hk) hq
theorem RG.det0 {j : Nat} {oj : Oper} {L' : List HP} {pl : Pl} (hj : ops[j]? = some oj) (hw : wn ops e oj = some true) (hd : oj.dst = none) (h : OpS P n e L oj (Det v L')) (hk : RG P n qs T ops pl C e L') (hq : isQK qs ops j = false := by exact rfl) :
    RG P n qs T ops (.a j pl) C e L := .actA hj hw (by rw [hd]; rfl) h (fun v L' hv => by obtain ⟨rfl, rfl⟩ := hv; rw [hd]; exact hk) hq
theorem RG.skipA {j d : Nat} {oj : Oper} {pl : Pl} (hj : ops[j]? = some oj) (hw : wn ops e oj = some false) (hd : oj.dst = some d) (hf : Nat.blt d n = true) (hk : RG P n qs T ops pl C ((d, undef) :: e) L) :
    RG P n qs T ops (.a j pl) C e L := fun listed F a w Q hs hok hQ hd' h1 h2 h3 => by
  simp only [okG, Bool.and_eq_true] at hok
  obtain ⟨hr, hok⟩ := hok
  have hr : Region.ready .any ops listed = [j] := by simpa using hr
  intro w0 hg
  refine ⟨fun h0 => (by rw [hr] at h0; cases h0), fun i hi => ?_⟩
  rw [hr, List.mem_singleton] at hi
  subst hi
  have hmem : i ∈ Region.ready .any ops listed := by rw [hr]; exact List.mem_singleton.2 rfl
  unfold wpOp
  simp only [hj]
  rw [wn_wanted h1 hw, if_neg (by simp), hd]
  exact ⟨⟨fun _ => .refl _, id⟩, hk _ F (a.put (some d) undef) w0 Q hs hok hQ (hd'.set hmem) (h1.put (d := some d) hf undef) (h2.grows hg) h3⟩
def RT (P : Program) (n : Nat) (qs : List Nat) (T : List HP) (ops : Array Oper) (j : Nat) (pl : Pl) (C : Env → List HP → Prop) (e : Env) (L : List HP) : Prop :=
  ∀ (listed : Array Bool) (F : HP) (a : Act) w (Q : Exit → Act → World → Prop), Region.noSelect ops = true → j ∈ Region.ready .any ops listed → okG qs ops (ancG ops.toList #[]) (listed.setIfInBounds j true) pl = true → (∀ c (a a' : Act) w, Q (.panic c) a w → Q (.panic c) a' w) → Down ops listed → Ag n e a.tmps → Sat w (L ++ [Stars (T ++ [F])]) →
    (∀ e' L' (a' : Act) w', C e' L' → Ag n e' a'.tmps → a'.defers = a.defers → Sat w' (L' ++ [F]) → Q .normal a' w') →
    wpOp P ops Q j (fun a' w'' => ((isQK qs ops j = true → Grows w w'') ∧ (Sat w T → Sat w'' T)) ∧ anyG P (fun w => Sat w T) qs ops Q (plen pl) (listed.setIfInBounds j true) a' w'') a w
theorem RT.actA {j : Nat} {oj : Oper} {pl : Pl} (hj : ops[j]? = some oj) (hw : wn ops e oj = some true) (hf : fits n oj.dst = true) (h : OpS P n e L oj K) (hk : ∀ v L', K v L' → RG P n qs T ops pl C (puts e oj.dst v) L') (hq : isQK qs ops j = false := by exact rfl) :
    RT P n qs T ops j pl C e L := fun listed F a w Q hs hmem hok hQ hd h1 h2 h3 => by
  unfold wpOp
  simp only [hj]
  rw [wn_wanted h1 hw, if_pos rfl]
  refine .inl (h (Stars (T ++ [F])) w a _ Q h1 h2 fun v w' L' hv hs' => ⟨⟨fun hq' => (by rw [hq] at hq'; cases hq'), fun _ => hs'.ofT⟩, hk v L' hv _ F (a.put oj.dst v) w' Q hs hok hQ (hd.set hmem) (h1.put hf v) hs' fun e' L'' a' w'' hc ha hdd hs' => h3 e' L'' a' w'' hc ha ?_ hs'⟩)
  rw [hdd]; cases oj.dst <;> rfl
theorem RT.actN {j d : Nat} {oj : Oper} {pl : Pl} (hj : ops[j]? = some oj) (hw : wn ops e oj = some true) (hd0 : oj.dst = some d) (hf0 : Nat.blt d n = true) (h : OpN P n e L oj K) (hk : ∀ v L', K v L' → RG P n qs T ops pl C ((d, v) :: e) L') :
    RT P n qs T ops j pl C e L := fun listed F a w Q hs hmem hok hQ hd h1 h2 h3 => by
  unfold wpOp
  simp only [hj]
  rw [wn_wanted h1 hw, if_pos rfl]
  refine .inl (h (Stars (T ++ [F])) w a _ Q h1 h2 fun v w' L' hv hs' hG => ⟨⟨fun _ => hG, fun _ => hs'.ofT⟩, (show RG P n qs T ops pl C (puts e oj.dst v) L' by rw [hd0]; exact hk v L' hv) _ F (a.put oj.dst v) w' Q hs hok hQ (hd.set hmem) (h1.put (by rw [hd0]; exact hf0) v) hs' fun e' L'' a' w'' hc ha hdd hs' => h3 e' L'' a' w'' hc ha ?_ hs'⟩)
  rw [hdd]; cases oj.dst <;> rfl
theorem RT.act {j d : Nat} {oj : Oper} {pl : Pl} (hj : ops[j]? = some oj) (hw : wn ops e oj = some true) (hd : oj.dst = some d) (hf : Nat.blt d n = true) (h : OpS P n e L oj K) (hk : ∀ v L', K v L' → RG P n qs T ops pl C ((d, v) :: e) L') (hq : isQK qs ops j = false := by exact rfl) :
    RT P n qs T ops j pl C e L := .actA hj hw (by rw [hd]; exact hf) h (fun v L' hv => by rw [hd]; exact hk v L' hv) hq
theorem RT.det0 {j : Nat} {oj : Oper} {L' : List HP} {pl : Pl} (hj : ops[j]? = some oj) (hw : wn ops e oj = some true) (hd : oj.dst = none) (h : OpS P n e L oj (Det v L')) (hk : RG P n qs T ops pl C e L') (hq : isQK qs ops j = false := by exact rfl) :
    RT P n qs T ops j pl C e L := .actA hj hw (by rw [hd]; rfl) h (fun v L' hv => by obtain ⟨rfl, rfl⟩ := hv; rw [hd]; exact hk) hq
theorem RG.two {i j : Nat} {pl ql : Pl} (H1 : RT P n qs T ops i pl C e L) (H2 : RT P n qs T ops j ql C e L) : RG P n qs T ops (.two i j pl ql) C e L := fun listed F a w Q hs hok hQ hd h1 h2 h3 => by
  simp only [okG, Bool.and_eq_true] at hok
  obtain ⟨⟨⟨a1, a2⟩, a3⟩, a4⟩ := hok
  have a1 := eq_of_beq a1
  have a2 := Nat.eq_of_beq_eq_true a2
  intro w0 hg
  refine ⟨fun h0 => (by rw [a1] at h0; cases h0), fun k hk => ?_⟩
  have hk' := hk
  rw [a1] at hk'
  rcases List.mem_cons.1 hk' with e1 | hk'
  · subst e1
    exact H1 listed F a w0 Q hs hk a3 hQ hd h1 (h2.grows hg) h3
  · rw [List.mem_singleton] at hk'
    subst hk'
    have := H2 listed F a w0 Q hs hk a4 hQ hd h1 (h2.grows hg) h3
    rw [← a2] at this
    exact this
theorem RG.three {i j l : Nat} {pl ql rl : Pl} (H1 : RT P n qs T ops i pl C e L) (H2 : RT P n qs T ops j ql C e L) (H3 : RT P n qs T ops l rl C e L) : RG P n qs T ops (.three i j l pl ql rl) C e L := fun listed F a w Q hs hok hQ hd h1 h2 h3 => by
  simp only [okG, Bool.and_eq_true] at hok
  obtain ⟨⟨⟨⟨a1, a2, a2'⟩, a3⟩, a4⟩, a5⟩ := hok
  have a1 := eq_of_beq a1
  have a2 := Nat.eq_of_beq_eq_true a2
  have a2' := Nat.eq_of_beq_eq_true a2'
  intro w0 hg
  refine ⟨fun h0 => (by rw [a1] at h0; cases h0), fun k hk => ?_⟩
  have hk' := hk
  rw [a1] at hk'
  rcases List.mem_cons.1 hk' with e1 | hk'
  · subst e1
    exact H1 listed F a w0 Q hs hk a3 hQ hd h1 (h2.grows hg) h3
  · rcases List.mem_cons.1 hk' with e1 | hk'
    · subst e1
      have := H2 listed F a w0 Q hs hk a4 hQ hd h1 (h2.grows hg) h3
      rw [← a2] at this
      exact this
    · rw [List.mem_singleton] at hk'
      subst hk'
      have := H3 listed F a w0 Q hs hk a5 hQ hd h1 (h2.grows hg) h3
      rw [← a2'] at this
      exact this
theorem RG.weak {e' : Env} {L' : List HP} {pl : Pl} (hs : Subs e' e) (hL : Ent L L') (h : RG P n qs T ops pl C e' L') : RG P n qs T ops pl C e L := fun listed F a w Q hs' hok hQ hd h1 h2 h3 => h listed F a w Q hs' hok hQ hd (h1.sub hs) (h2.entF hL) h3
theorem RG.ent {L' : List HP} {pl : Pl} (hL : Ent L L') (h : RG P n qs T ops pl C e L') : RG P n qs T ops pl C e L := fun listed F a w Q hs' hok hQ hd h1 h2 h3 => h listed F a w Q hs' hok hQ hd h1 (h2.entF hL) h3
theorem RG.pure {φ : Prop} {pl : Pl} (h : φ → RG P n qs T ops pl C e L) : RG P n qs T ops pl C e (pure' φ :: L) := fun listed F a w Q hs' hok hQ hd h1 h2 h3 => h h2.pure listed F a w Q hs' hok hQ hd h1 (h2.ent (.drop _)) h3
theorem RG.ex {α : Sort _} {p : α → HP} {pl : Pl} (h : ∀ x, RG P n qs T ops pl C e (p x :: L)) : RG P n qs T ops pl C e ((fun r => ∃ x, p x r) :: L) := fun listed F a w Q hs' hok hQ hd h1 h2 h3 =>
  let ⟨x, h4⟩ := Sat.ex h2; h x listed F a w Q hs' hok hQ hd h1 h4 h3
def ixs : List Nat := [0, 1, 2, 3, 4, 5, 6, 7, 8, 9, 10, 11, 12, 13, 14, 15, 16, 17, 18, 19, 20, 21, 22, 23, 24, 25, 26, 27, 28, 29, 30, 31, 32, 33, 34, 35, 36, 37, 38, 39, 40, 41, 42, 43, 44, 45, 46, 47, 48, 49, 50, 51, 52, 53, 54, 55, 56, 57, 58, 59, 60, 61, 62, 63]
def numb : List Nat → List Oper → List (Nat × Oper)
  | i :: r, o :: s => (i, o) :: numb r s
  | _, _ => []
def edgesIn (done : List Nat) : List Edge → Bool
  | [] => true
  | x :: r => bif Region.binds .any x then (bif elemN x.on done then edgesIn done r else false) else edgesIn done r
def findQ (qs done : List Nat) : List (Nat × Oper) → Option (Nat × List (Nat × Oper))
  | [] => none
  | (i, o) :: r => bif (bif (bif isQuiet o.op then true else elemN i qs) then edgesIn done o.after.toList else false) then some (i, r) else match findQ qs done r with
    | some (j, s) => some (j, (i, o) :: s)
    | none => none
def findA (done : List Nat) : List (Nat × Oper) → Option (Nat × List (Nat × Oper))
  | [] => none
  | (i, o) :: r => bif edgesIn done o.after.toList then some (i, r) else match findA done r with
    | some (j, s) => some (j, (i, o) :: s)
    | none => none
def without (j : Nat) : List (Nat × Oper) → List (Nat × Oper)
  | [] => []
  | (i, o) :: r => bif Nat.beq i j then r else (i, o) :: without j r
def planG (qs : List Nat) : List (Nat × Oper) → List Nat → Nat → Option Pl
  | [], _, _ => some .nil
  | _ :: _, _, 0 => none
  | x :: r, done, q + 1 => match findQ qs done (x :: r) with
    | some (i, s) => (match planG qs s (i :: done) q with
      | some l => some (.q i l)
      | none => none)
    | none => match findA done (x :: r) with
      | some (i, s) => (match planG qs s (i :: done) q with
        | some l => (match findA done s with
          | none => some (.a i l)
          | some (j, u) => (match planG qs (without j (x :: r)) (j :: done) q with
            | some l2 => (match findA done u with
              | none => some (.two i j l l2)
              | some (k, _) => match planG qs (without k (x :: r)) (k :: done) q with
                | some l3 => some (.three i j k l l2 l3)
                | none => none)
            | none => none))
        | none => none)
      | none => none
theorem W.planT {f id : Nat} {R : Fin} {k : List Item} {ds : List Deferred} {L' : List HP} (T : List HP) (qs : List Nat) {pl : Pl} (hm : P.follows .mixedOrders = true) (hp : planG qs (numb ixs ops.toList) [] 64 = some pl)
    (hok : (Nat.beq (plen pl) ops.size && Region.noSelect ops && okM qs ops (ancG ops.toList #[]) (ops.map fun o => dmG o.after.toList) 0 pl) = true) (h : RG P n qs T ops pl (fun e L => W P f n R k e ds L) e L') (hL : Picks T L L') :
    W P f n R (.code (.region id ops true) :: k) e ds L := fun F b cs t w h1 h2 h3 h4 => by
  clear hp
  simp only [Bool.and_eq_true] at hok
  obtain ⟨⟨hl, hs⟩, hok⟩ := hok
  have hok := okM_ok rfl pl 0 (Array.replicate ops.size false) ⟨by simp, fun k => by rw [Array.getD_eq_getD_getElem?, Array.getElem?_replicate]; split <;> simp⟩ hok
  have hw := h _ F ⟨t, ds⟩ { w with drawn := w.drawn + 1 } (fun ex a' w' => ex = .normal ∧ Ends P f R F b cs k a' w') hs hok (fun _ _ _ _ h => nomatch h.1)
    (fun j o ho hl => by rw [Array.getD_eq_getD_getElem?, Array.getElem?_replicate] at hl; split at hl <;> cases hl) h3 (((h4.grows (.same rfl)).entF hL.ent).ent toT)
    fun e' L' a' w' hc ha hd hs => ⟨rfl, by obtain ⟨t', ds'⟩ := a'; obtain rfl : ds' = ds := hd; exact hc F b cs t' w' h1 h2 ha hs⟩
  rw [Nat.eq_of_beq_eq_true hl] at hw
  obtain ⟨ex, a', w', ⟨rfl, hq⟩, harr⟩ := wp_region_any (id := id) hm (anyG.any _ _ _ _ hw) b k cs
  obtain ⟨v, w2, fr, L', q1, q2, q3, q4, q5⟩ := hq
  exact ⟨v, w2, fr, L', q1, q2, Steps.trans harr q3, q4, q5⟩
theorem W.plan {f id : Nat} {R : Fin} {k : List Item} {ds : List Deferred} (qs : List Nat) {pl : Pl} (hm : P.follows .mixedOrders = true) (hp : planG qs (numb ixs ops.toList) [] 64 = some pl)
    (hok : (Nat.beq (plen pl) ops.size && Region.noSelect ops && okM qs ops (ancG ops.toList #[]) (ops.map fun o => dmG o.after.toList) 0 pl) = true) (h : RG P n qs [] ops pl (fun e L => W P f n R k e ds L) e L) :
    W P f n R (.code (.region id ops true) :: k) e ds L := .planT [] qs hm hp hok h .nil
end
end Go.SL
