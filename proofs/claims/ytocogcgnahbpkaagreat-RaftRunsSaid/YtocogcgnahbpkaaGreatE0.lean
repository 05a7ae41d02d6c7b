/-
  A part of the proof of what E53 says at its head.
-/
import Derived.WalkKit
import Derived.WalkSpells
import Derived.WalkLawsBesides
import Derived.OrdersHeld
import Derived.Lib.Hide
namespace Go.SL
open Go.RowKit
inductive XO where
  | blk (o : Obj)
  | out (os : Os) (tape : Nat → Question → Nat) (output : Array (Nat × ByteArray))
def xob (w : World) : Option Nat → Option XO
  | some b => (w.heap[b]?).map .blk
  | none => some (.out w.os w.tape w.output)
abbrev Res := Option Nat → Option (Bool × XO)
def Res.In (r : Res) (h : Option Nat → Option XO) : Prop := ∀ i q o, r i = some (q, o) → h i = some o
def Res.le (r s : Res) : Prop := ∀ i q o, r i = some (q, o) → ∃ q', s i = some (q', o) ∧ (q = true → q' = true)
def Res.sep (r s : Res) : Prop := ∀ i q o q' o', r i = some (q, o) → s i = some (q', o') → q = false ∧ q' = false
def Res.sh (r : Res) : Res := fun i => (r i).map fun x => (false, x.2)
theorem Res.le.refl (r : Res) : r.le r := fun _ q _ h => ⟨q, h, id⟩
theorem Res.le.trans {r s t : Res} (h : r.le s) (k : s.le t) : r.le t := fun i q o e => by
  obtain ⟨q', e', f⟩ := h i q o e
  obtain ⟨q'', e'', f'⟩ := k i q' o e'
  exact ⟨q'', e'', fun x => f' (f x)⟩
theorem Res.In.le {r s : Res} {h : Option Nat → Option XO} (k : s.In h) (e : r.le s) : r.In h := fun i q o x => by
  obtain ⟨q', y, _⟩ := e i q o x
  exact k i q' o y
theorem Res.sep.le {r s r' s' : Res} (h : r.sep s) (a : r'.le r) (b : s'.le s) : r'.sep s' := fun i q o q' o' x y => by
  obtain ⟨u, x', f⟩ := a i q o x
  obtain ⟨v, y', g⟩ := b i q' o' y
  obtain ⟨h1, h2⟩ := h i u o v o' x' y'
  subst h1; subst h2
  exact ⟨by cases q <;> simp_all, by cases q' <;> simp_all⟩
theorem Res.sep.symm {r s : Res} (h : r.sep s) : s.sep r := fun i q o q' o' x y => (h i q' o' q o y x).symm
theorem Res.sh_le (r : Res) : r.sh.le r := fun i q o h => by
  unfold Res.sh at h
  cases e : r i with
  | none => rw [e] at h; cases h
  | some x => rw [e] at h; simp at h; exact ⟨x.1, by rw [← h.2], fun hq => absurd (h.1.symm.trans hq) (by simp)⟩
theorem Res.sh_at {r : Res} {i : Option Nat} {q : Bool} {o : XO} (h : r.sh i = some (q, o)) : q = false ∧ ∃ q', r i = some (q', o) := by
  unfold Res.sh at h
  cases e : r i with
  | none => rw [e] at h; cases h
  | some x => rw [e] at h; simp at h; exact ⟨h.1, x.1, by rw [← h.2]⟩
theorem Res.sh_some {r : Res} {i : Option Nat} {q : Bool} {o : XO} (h : r i = some (q, o)) : r.sh i = some (false, o) := by unfold Res.sh; rw [h]; rfl
def Res.join (r s : Res) : Res := fun i => match r i with | some x => some x | none => s i
theorem Res.join_le {r s t : Res} (h : r.le t) (k : s.le t) : (r.join s).le t := fun i q o e => by
  unfold Res.join at e
  cases hr : r i with
  | some x => rw [hr] at e; injection e with e; subst e; exact h i _ _ hr
  | none => rw [hr] at e; exact k i _ _ e
theorem Res.le_join (r s : Res) : r.le (r.join s) := fun i q o e => ⟨q, by unfold Res.join; rw [e], id⟩
theorem Res.le_join' {r s t : Res} (h : r.le t) (k : s.le t) (hs : r.sep s) : s.le (r.join s) := fun i q o e => by
  unfold Res.join
  cases hr : r i with
  | some x =>
    obtain ⟨h1, h2⟩ := hs i x.1 x.2 q o hr e
    obtain ⟨q1, e1, _⟩ := h i x.1 x.2 hr
    obtain ⟨q2, e2, _⟩ := k i q o e
    rw [e1] at e2
    injection e2 with e2
    injection e2 with _ e3
    exact ⟨x.1, by rw [← e3], fun hq => by rw [h2] at hq; cases hq⟩
  | none => exact ⟨q, e, id⟩
theorem Res.sep_join {r s t : Res} (h : r.sep t) (k : s.sep t) : (r.join s).sep t := fun i q o q' o' e e' => by
  unfold Res.join at e
  cases hr : r i with
  | some x => rw [hr] at e; injection e with e; subst e; exact h i _ _ _ _ hr e'
  | none => rw [hr] at e; exact k i _ _ _ _ e e'
abbrev HP := Res → Prop
def Stars : List HP → HP
  | [], _ => True
  | P :: l, r => ∃ r1 r2 : Res, r1.le r ∧ r2.le r ∧ r1.sep r2 ∧ P r1 ∧ Stars l r2
def Sat (w : World) (l : List HP) : Prop := ∃ r : Res, r.In (xob w) ∧ Stars l r
theorem Stars.le : ∀ {l : List HP} {r s : Res}, Stars l r → r.le s → Stars l s
  | [], _, _, _, _ => trivial
  | _ :: _, _, _, ⟨r1, r2, a, b, c, d, e⟩, h => ⟨r1, r2, a.trans h, b.trans h, c, d, e⟩
theorem Stars.app : ∀ {l m : List HP} {r : Res}, Stars (l ++ m) r ↔ ∃ r1 r2 : Res, r1.le r ∧ r2.le r ∧ r1.sep r2 ∧ Stars l r1 ∧ Stars m r2
  | [], m, r => ⟨fun h => ⟨fun _ => none, r, fun _ _ _ h => (nomatch h), .refl r, fun _ _ _ _ _ h => (nomatch h), trivial, h⟩, fun ⟨_, _, _, b, _, _, e⟩ => e.le b⟩
  | P :: l, m, r => by
    constructor
    · rintro ⟨r1, r2, a, b, c, d, e⟩
      obtain ⟨s1, s2, a', b', c', d', e'⟩ := Stars.app.1 e
      refine ⟨r1.join s1, s2, Res.join_le a (a'.trans b), b'.trans b, Res.sep_join (c.le (.refl _) b') c', ⟨r1, s1, Res.le_join _ _, Res.le_join' a (a'.trans b) (c.le (.refl _) a'), c.le (.refl _) a', d, d'⟩, e'⟩
    · rintro ⟨s1, s2, a, b, c, ⟨r1, r2, a', b', c', d', e'⟩, e⟩
      have h2 : (r2.join s2).le r := Res.join_le (b'.trans a) b
      refine ⟨r1, r2.join s2, a'.trans a, h2, (Res.sep_join c'.symm (c.symm.le (.refl _) a')).symm, d', Stars.app.2 ⟨r2, s2, Res.le_join _ _, Res.le_join' (b'.trans a) b (c.le b' (.refl _)), c.le b' (.refl _), e', e⟩⟩
theorem Stars.swap {P Q : HP} {l : List HP} {r : Res} (h : Stars (P :: Q :: l) r) : Stars (Q :: P :: l) r := by
  obtain ⟨r1, r2, a, b, c, d, s1, s2, a', b', c', d', e'⟩ := h
  refine ⟨s1, r1.join s2, a'.trans b, Res.join_le a (b'.trans b), (Res.sep_join (c.le (.refl _) a') c'.symm).symm, d', r1, s2, Res.le_join _ _, Res.le_join' a (b'.trans b) (c.le (.refl _) b'), c.le (.refl _) b', d, e'⟩
theorem Stars.perm {l m : List HP} (h : l.Perm m) : ∀ {r : Res}, Stars l r → Stars m r := by
  induction h with
  | nil => exact fun h => h
  | cons x _ ih => rintro r ⟨r1, r2, a, b, c, d, e⟩; exact ⟨r1, r2, a, b, c, d, ih e⟩
  | swap x y l => exact fun h => h.swap
  | trans _ _ ih1 ih2 => exact fun h => ih2 (ih1 h)
section
variable {w w' : World} {l m : List HP} {P Q : HP}
theorem Sat.perm (h : Sat w l) (hp : l.Perm m) : Sat w m := let ⟨r, a, b⟩ := h; ⟨r, a, b.perm hp⟩
theorem Sat.imp (h : Sat w l) (hs : ∀ r, Stars l r → Stars m r) : Sat w m := let ⟨r, a, b⟩ := h; ⟨r, a, hs r b⟩
def Ent (l m : List HP) : Prop := ∀ r, Stars l r → Stars m r
theorem Ent.refl (l : List HP) : Ent l l := fun _ h => h
theorem Ent.trans {l m k : List HP} (h : Ent l m) (h' : Ent m k) : Ent l k := fun r x => h' r (h r x)
theorem Ent.app {l m l' m' : List HP} (h : Ent l l') (h' : Ent m m') : Ent (l ++ m) (l' ++ m') := fun r x => by
  obtain ⟨r1, r2, a, b, c, d, e⟩ := Stars.app.1 x
  exact Stars.app.2 ⟨r1, r2, a, b, c, h _ d, h' _ e⟩
theorem Ent.frame {l m k : List HP} (h : Ent l m) : Ent (l ++ k) (m ++ k) := h.app (.refl _)
theorem Ent.cons {l m : List HP} (P : HP) (h : Ent l m) : Ent (P :: l) (P :: m) := fun _ ⟨r1, r2, a, b, c, d, e⟩ => ⟨r1, r2, a, b, c, d, h _ e⟩
theorem Ent.perm (h : l.Perm m) : Ent l m := fun _ x => x.perm h
theorem Ent.drop (P : HP) : Ent (P :: l) l := fun _ ⟨_, _, _, b, _, _, e⟩ => e.le b
theorem Ent.nil : Ent l [] := fun _ _ => trivial
theorem Ent.star : Ent (Stars l :: m) (l ++ m) := fun _ ⟨r1, r2, a, b, c, d, e⟩ => Stars.app.2 ⟨r1, r2, a, b, c, d, e⟩
theorem Ent.unstar : Ent (l ++ m) (Stars l :: m) := fun r h => by
  obtain ⟨r1, r2, a, b, c, d, e⟩ := Stars.app.1 h
  exact ⟨r1, r2, a, b, c, d, e⟩
theorem Ent.head {P : HP} {k : List HP} (h : ∀ r, P r → Stars k r) : Ent (P :: l) (k ++ l) := fun _ ⟨r1, r2, a, b, c, d, e⟩ => Stars.app.2 ⟨r1, r2, a, b, c, h _ d, e⟩
theorem Sat.ent (h : Sat w l) (e : Ent l m) : Sat w m := h.imp e
theorem Sat.entF {F : HP} (h : Sat w (l ++ [F])) (e : Ent l m) : Sat w (m ++ [F]) := h.imp e.frame
theorem Sat.fst (h : Sat w (l ++ m)) : Sat w l := by
  obtain ⟨r, a, b⟩ := h
  obtain ⟨r1, r2, x, y, z, u, v⟩ := Stars.app.1 b
  exact ⟨r1, a.le x, u⟩
inductive Pick (P : HP) : List HP → List HP → Prop
  | hd {l : List HP} : Pick P (P :: l) l
  | tl {Q : HP} {l m : List HP} : Pick P l m → Pick P (Q :: l) (Q :: m)
theorem Pick.perm (h : Pick P l m) : l.Perm (P :: m) := by
  induction h with
  | hd => exact .refl _
  | tl _ ih => exact (ih.cons _).trans (.swap _ _ _)
theorem Pick.ent (h : Pick P l m) : Ent l (P :: m) := .perm h.perm
theorem Pick.back (h : Pick P l m) : Ent (P :: m) l := .perm h.perm.symm
inductive Picks : List HP → List HP → List HP → Prop
  | nil {l : List HP} : Picks [] l l
  | cons {P : HP} {a l m k : List HP} : Pick P l m → Picks a m k → Picks (P :: a) l k
theorem Picks.perm {a l k : List HP} (h : Picks a l k) : l.Perm (a ++ k) := by
  induction h with
  | nil => exact .refl _
  | cons hp _ ih => exact hp.perm.trans (ih.cons _)
theorem Picks.ent {a l k : List HP} (h : Picks a l k) : Ent l (a ++ k) := .perm h.perm
theorem Picks.sub {a l k : List HP} (h : Picks a l k) : Ent l a := fun r x => by
  obtain ⟨r1, r2, p, _, _, q, _⟩ := Stars.app.1 (h.ent r x)
  exact q.le p
def Grows (w w' : World) : Prop := ∀ (i : Option Nat) (o : XO), xob w i = some o → xob w' i = some o
theorem xob_blk (w : World) (b : Nat) : xob w (some b) = (w.heap[b]?).map .blk := rfl
theorem xob_at {w : World} {b : Nat} {o : Obj} (h : w.heap[b]? = some o) : xob w (some b) = some (.blk o) := by rw [xob_blk, h]; rfl
theorem xob_of {w : World} {b : Nat} {o : Obj} (h : xob w (some b) = some (.blk o)) : w.heap[b]? = some o := by
  rw [xob_blk] at h
  cases e : w.heap[b]? with
  | none => rw [e] at h; cases h
  | some x => rw [e] at h; injection h with h; injection h with h; rw [h]
theorem Grows.at {w w' : World} (h : Grows w w') {b : Nat} {o : Obj} (e : w.heap[b]? = some o) : w'.heap[b]? = some o := xob_of (h _ _ (xob_at e))
structure Outer (w w' : World) : Prop where
  os : w'.os = w.os
  tape : w'.tape = w.tape
  output : w'.output = w.output
theorem Outer.at {w w' : World} (h : Outer w w') : xob w' none = xob w none := by unfold xob; rw [h.os, h.tape, h.output]
theorem Grows.mk {w w' : World} (h : Outer w w') (hb : ∀ (i : Nat) (o : Obj), w.heap[i]? = some o → w'.heap[i]? = some o) : Grows w w' := fun i x e => by
  cases i with
  | none => rw [h.at]; exact e
  | some b =>
    cases ho : w.heap[b]? with
    | none => rw [xob_blk, ho] at e; cases e
    | some o => rw [xob_at ho] at e; injection e with e; rw [← e]; exact xob_at (hb b o ho)
theorem Grows.refl (w : World) : Grows w w := fun _ _ h => h
theorem Grows.trans {w'' : World} (h : Grows w w') (k : Grows w' w'') : Grows w w'' := fun i o e => k i o (h i o e)
theorem Sat.grows (h : Sat w l) (g : Grows w w') : Sat w' l := let ⟨r, a, b⟩ := h; ⟨r, fun i q o e => g i o (a i q o e), b⟩
theorem Grows.same (h : w'.heap = w.heap) (ho : Outer w w' := by exact ⟨rfl, rfl, rfl⟩) : Grows w w' := .mk ho fun i o e => by rw [h]; exact e
theorem Grows.below (h : Below w.heap.size w w') : Grows w w' := .mk ⟨h.os, h.tape, h.output⟩ fun i o e => by
  rw [h.block i (Array.getElem?_eq_some_iff.1 e).1]; exact e
theorem Grows.push {o : Obj} (h : w'.heap = w.heap.push o) (ho : Outer w w' := by exact ⟨rfl, rfl, rfl⟩) : Grows w w' := .mk ho fun i p e => by
  rw [h, Array.getElem?_push, if_neg (by have := (Array.getElem?_eq_some_iff.1 e).1; omega)]; exact e
def Own (q : Bool) (b : Nat) (o : Obj) : HP := fun r => ∃ q', r (some b) = some (q', .blk o) ∧ (q = true → q' = true)
abbrev Blk (q : Bool) (b : Nat) (cs : List Value) (t : TypeId) : HP := Own q b (.cells cs.toArray t (0, 0))
theorem Sat.own {q : Bool} {b : Nat} {o : Obj} (h : Sat w (Own q b o :: l)) : w.heap[b]? = some o := by
  obtain ⟨r, a, r1, r2, x, y, z, ⟨q', e, _⟩, v⟩ := h
  exact xob_of (a.le x _ q' _ e)
theorem Sat.upd {b : Nat} {o o' : Obj} (h : Sat w (Own true b o :: l)) (hb : w'.heap[b]? = some o') (ho : ∀ i, i ≠ b → w'.heap[i]? = w.heap[i]?) (hx : Outer w w' := by exact ⟨rfl, rfl, rfl⟩) : Sat w' (Own true b o' :: l) := by
  obtain ⟨r, a, r1, r2, x, y, z, ⟨q', e, f⟩, v⟩ := h
  have hq := f rfl
  subst hq
  refine ⟨fun i => if i = some b then some (true, .blk o') else r i, ?_, fun i => if i = some b then some (true, .blk o') else none, fun i => if i = some b then none else r2 i, ?_, ?_, ?_, ⟨true, if_pos rfl, fun _ => rfl⟩, ?_⟩
  · intro i q p hi
    by_cases hib : i = some b
    · subst hib; simp only [if_true] at hi; injection hi with hi; injection hi with h1 h2; rw [← h2]; exact xob_at hb
    · simp only [if_neg hib] at hi; 
      have ha := a i q p hi
      cases i with
      | none => rw [hx.at]; exact ha
      | some j => rw [xob_blk] at ha ⊢; rw [ho j (fun h => hib (by rw [h]))]; exact ha
  · intro i q p hi
    by_cases hib : i = some b
    · exact ⟨true, by simp only [if_pos hib] at hi ⊢; injection hi with hi; injection hi with h1 h2; rw [h2], fun _ => rfl⟩
    · simp [hib] at hi
  · intro i q p hi
    by_cases hib : i = some b
    · simp [hib] at hi
    · simp only [if_neg hib] at hi ⊢; exact y i q p hi
  · intro i q p q' p' hi hj
    by_cases hib : i = some b
    · simp [hib] at hj
    · simp [hib] at hi
  · refine v.le fun i q p hi => ?_
    by_cases hib : i = some b
    · subst hib; have := z _ true _ q p e hi; simp at this
    · exact ⟨q, by simp only [if_neg hib]; exact hi, id⟩
theorem Sat.new {b : Nat} {o : Obj} (h : Sat w l) (g : Grows w w') (hb : w'.heap[b]? = some o) (hn : w.heap[b]? = none) : Sat w' (Own true b o :: l) := by
  obtain ⟨r, a, v⟩ := h
  have hr : r (some b) = none := by
    cases e : r (some b) with
    | none => rfl
    | some x => have := a _ x.1 x.2 e; rw [xob_blk, hn] at this; cases this
  refine ⟨fun i => if i = some b then some (true, .blk o) else r i, ?_, fun i => if i = some b then some (true, .blk o) else none, r, ?_, ?_, ?_, ⟨true, if_pos rfl, fun _ => rfl⟩, v⟩
  · intro i q p hi
    by_cases hib : i = some b
    · subst hib; simp only [if_true] at hi; injection hi with hi; injection hi with h1 h2; rw [← h2]; exact xob_at hb
    · simp only [if_neg hib] at hi; exact g i p (a i q p hi)
  · intro i q p hi
    by_cases hib : i = some b
    · exact ⟨true, by simp only [if_pos hib] at hi ⊢; injection hi with hi; injection hi with h1 h2; rw [h2], fun _ => rfl⟩
    · simp [hib] at hi
  · intro i q p hi
    by_cases hib : i = some b
    · subst hib; rw [hr] at hi; cases hi
    · exact ⟨q, by simp only [if_neg hib]; exact hi, id⟩
  · intro i q p q' p' hi hj
    by_cases hib : i = some b
    · subst hib; rw [hr] at hj; cases hj
    · simp [hib] at hi
theorem Sat.alloc {o : Obj} (h : Sat w l) : Sat (w.alloc o) (Own true w.heap.size o :: l) :=
  h.new (Grows.push rfl) (by show (w.heap.push o)[w.heap.size]? = _; simp) (by simp)
theorem Sat.ne {q : Bool} {b b' : Nat} {o o' : Obj} (h : Sat w (Own true b o :: Own q b' o' :: l)) : b ≠ b' := by
  rintro rfl
  obtain ⟨r, a, r1, r2, x, y, z, ⟨q1, e1, f1⟩, s1, s2, x', y', z', ⟨q2, e2, f2⟩, v⟩ := h
  obtain ⟨q3, e3, _⟩ := x' _ q2 _ e2
  have := (z _ q1 _ q3 _ e1 e3).1
  rw [f1 rfl] at this; cases this
def Pers (P : HP) : Prop := ∀ r : Res, P r → P r.sh
theorem Pers.own {b : Nat} {o : Obj} : Pers (Own false b o) := fun r ⟨q', e, _⟩ => ⟨false, Res.sh_some e, fun h => (nomatch h)⟩
theorem Own.lend {q : Bool} {b : Nat} {o : Obj} {r : Res} (h : Own q b o r) : Own false b o r := let ⟨q', e, _⟩ := h; ⟨q', e, fun h => (nomatch h)⟩
def pure' (φ : Prop) : HP := fun _ => φ
theorem Sat.pure {φ : Prop} (h : Sat w (pure' φ :: l)) : φ := let ⟨_, _, _, _, _, _, _, d, _⟩ := h; d
theorem Sat.ex {α : Sort _} {p : α → HP} (h : Sat w ((fun r => ∃ x, p x r) :: l)) : ∃ x, Sat w (p x :: l) := by
  obtain ⟨r, a, r1, r2, x, y, z, ⟨u, d⟩, v⟩ := h
  exact ⟨u, r, a, r1, r2, x, y, z, d, v⟩
def Res.ex (r : Res) : Res := fun i => match r i with | some (true, o) => some (true, o) | _ => none
theorem Res.ex_at {r : Res} {i : Option Nat} {q : Bool} {o : XO} (h : r.ex i = some (q, o)) : q = true ∧ r i = some (true, o) := by
  unfold Res.ex at h
  split at h
  · rename_i h2; injection h with h; injection h with h3 h4; subst h3; subst h4; exact ⟨rfl, h2⟩
  · cases h
theorem Res.ex_some {r : Res} {i : Option Nat} {o : XO} (h : r i = some (true, o)) : r.ex i = some (true, o) := by unfold Res.ex; rw [h]
theorem Res.ex_le (r : Res) : r.ex.le r := fun i q o h => by obtain ⟨rfl, h2⟩ := Res.ex_at h; exact ⟨true, h2, id⟩
theorem Res.ex_mono {r s : Res} (h : r.le s) : r.ex.le s.ex := fun i q o e => by
  obtain ⟨rfl, e2⟩ := Res.ex_at e
  obtain ⟨q', e', hq⟩ := h i true o e2
  obtain rfl := hq rfl
  exact ⟨true, Res.ex_some e', id⟩
theorem Res.sep_ex {r s : Res} (h : r.sep s) : r.ex.sep s.ex := h.le (Res.ex_le r) (Res.ex_le s)
def Excl (P : HP) : Prop := ∀ r : Res, P r → P r.ex
theorem Excl.own {b : Nat} {o : Obj} : Excl (Own true b o) := fun r ⟨q', e, h⟩ => ⟨true, Res.ex_some (by rw [e, h rfl]), fun _ => rfl⟩
theorem Excl.stars : ∀ {l : List HP}, (∀ Q ∈ l, Excl Q) → Excl (Stars l)
  | [], _ => fun _ _ => trivial
  | P :: l, h => fun r ⟨r1, r2, a, b, c, d, e⟩ => ⟨r1.ex, r2.ex, Res.ex_mono a, Res.ex_mono b, Res.sep_ex c, h P (List.mem_cons_self ..) r1 d, Excl.stars (fun Q hQ => h Q (List.mem_cons_of_mem _ hQ)) r2 e⟩
end
end Go.SL
