/-
  Rows of elements in memory, as lists: a slice that is read ('Row'), a slice of the call's own ('Own'), append onto the latter.
-/
import Derived.WalkKit
import Derived.WalkSpells
import Derived.WalkLawsBesides
import Derived.Lib.Hide
import Derived.Maps.AppendAt
import Derived.Deep.AppendLies
import Derived.Deep.Draws
import Derived.Laws.OwnMore
import Derived.Maps.OwnSet
namespace Go.Proofs.YtjoaldaldcpfeaaGreatDoor
open Go.RowKit

theorem ret_eq {v v' : Value} (h : v = v') : Ending.returned v = .returned v' := by rw [h]
theorem ret_bool {a b : Bool} (h : a = b) : Ending.returned (.bool a) = .returned (.bool b) := by rw [h]
theorem ret_int {k : IntKind} {a b : Int} (h : a = b) : Ending.returned (.int k a) = .returned (.int k b) := by rw [h]

section
variable {α : Type} {enc : α → List Value} {sz : Nat} {w w' : World} {B : Nat} {A : Option Addr} {xs ys : List α}

theorem flat_len (hs : ∀ x, (enc x).length = sz) : ∀ xs : List α, (xs.flatMap enc).length = xs.length * sz
  | [] => by simp
  | x :: r => by rw [List.flatMap_cons, List.length_append, hs, flat_len hs r, List.length_cons, Nat.add_mul]; omega

theorem flat_at (hs : ∀ x, (enc x).length = sz) : ∀ (xs : List α) (k j : Nat) (x : α), xs[k]? = some x → j < sz → (xs.flatMap enc)[k * sz + j]? = (enc x)[j]?
  | [], k, j, x, h, _ => by simp at h
  | y :: r, 0, j, x, h, hj => by
    simp at h; subst h
    rw [List.flatMap_cons, Nat.zero_mul, Nat.zero_add, List.getElem?_append_left (by rw [hs]; exact hj)]
  | y :: r, k + 1, j, x, h, hj => by
    rw [List.flatMap_cons, List.getElem?_append_right (by rw [hs, Nat.add_mul]; omega), hs]
    have e : (k + 1) * sz + j - sz = k * sz + j := by rw [Nat.add_mul]; omega
    rw [e]
    exact flat_at hs r k j x (by simpa using h) hj

theorem flat_inv (hs : ∀ x, (enc x).length = sz) (xs : List α) (i : Nat) (v : Value) (h : (xs.flatMap enc)[i]? = some v) : ∃ k j x, i = k * sz + j ∧ j < sz ∧ xs[k]? = some x ∧ (enc x)[j]? = some v := by
  have hi : i < (xs.flatMap enc).length := (List.getElem?_eq_some_iff.1 h).1
  rw [flat_len hs] at hi
  have h0 : 0 < sz := by
    rcases Nat.eq_zero_or_pos sz with h0 | h0
    · subst h0; simp at hi
    · exact h0
  have e : i = i / sz * sz + i % sz := by rw [Nat.mul_comm]; exact (Nat.div_add_mod i sz).symm
  have hk : i / sz < xs.length := (Nat.div_lt_iff_lt_mul h0).2 hi
  have hm := Nat.mod_lt i h0
  refine ⟨i / sz, i % sz, xs[i / sz], e, hm, List.getElem?_eq_getElem hk, ?_⟩
  rw [← flat_at hs xs (i / sz) (i % sz) _ (List.getElem?_eq_getElem hk) hm, ← e]
  exact h

/-- The slice at A reads as xs, and lies below block B. -/
def Row (enc : α → List Value) (sz : Nat) (w : World) (B : Nat) (A : Option Addr) (xs : List α) : Prop :=
  xs = [] ∨ ∃ b o, A = some ⟨b, o, none⟩ ∧ b < B ∧ ∀ k x, xs[k]? = some x → ∀ j v, (enc x)[j]? = some v → w.cell? ⟨b, o + k * sz + j, none⟩ = some v

theorem Row.nil : Row enc sz w B A [] := .inl rfl
theorem Row.keep (h : Row enc sz w B A xs) (hb : ∀ p : Addr, p.block < B → w'.cell? p = w.cell? p) : Row enc sz w' B A xs := by
  rcases h with h | ⟨b, o, e, hb', hc⟩
  · exact .inl h
  · exact .inr ⟨b, o, e, hb', fun k x hk j v hv => (hb ⟨b, _, none⟩ hb').trans (hc k x hk j v hv)⟩
theorem Row.below (h : Row enc sz w B A xs) (hb : Below B w w') : Row enc sz w' B A xs := h.keep fun _ hp => hb.cell hp
theorem Row.more {B' : Nat} (h : Row enc sz w B A xs) (hB : B ≤ B') : Row enc sz w B' A xs := by
  rcases h with h | ⟨b, o, e, hb', hc⟩
  · exact .inl h
  · exact .inr ⟨b, o, e, by omega, hc⟩
theorem Row.alloc (h : Row enc sz w B A xs) (hB : B ≤ w.heap.size) (o : Obj) : Row enc sz (w.alloc o) B A xs := h.keep fun p hp => World.cell?_alloc_lt w o p (by omega)
theorem Row.at_ {k : Nat} {x : α} (h : Row enc sz w B A xs) (hk : xs[k]? = some x) :
    ∃ b o, A = some ⟨b, o, none⟩ ∧ b < B ∧ ∀ j v, (enc x)[j]? = some v → w.cell? ⟨b, o + k * sz + j, none⟩ = some v := by
  rcases h with rfl | ⟨b, o, e, hb', hc⟩
  · simp at hk
  · exact ⟨b, o, e, hb', hc k x hk⟩
theorem Row.cut {n k cap : Nat} (h : Row enc sz w B A xs) (hk : k ≤ n) (hn : n ≤ cap) :
    Row enc sz w B (if cap = k then A else A.map (·.add (k * sz))) ((xs.take n).drop k) := by
  by_cases hz : (xs.take n).drop k = []
  · exact .inl hz
  · rcases h with rfl | ⟨b, o, e, hb', hc⟩
    · simp at hz
    · have hkn : k < n := by
        rcases Nat.lt_or_ge k n with h | h
        · exact h
        · exact absurd (List.drop_eq_nil_of_le (by rw [List.length_take]; omega)) hz
      subst e
      rw [if_neg (by omega)]
      refine .inr ⟨b, o + k * sz, ?_, hb', fun i x hi j v hv => ?_⟩
      · simp only [Option.map_some, Addr.add]
        split
        · next h0 => simp [h0]
        · rfl
      · have hi' : xs[k + i]? = some x := by
          rw [List.getElem?_drop] at hi
          have := List.getElem?_take (l := xs) (i := n) (j := k + i)
          rw [hi] at this
          split at this
          · exact this.symm
          · cases this
        have := hc (k + i) x hi' j v hv
        rwa [Nat.add_mul, ← Nat.add_assoc] at this

/-- A slice of the call's own (from block 'base' on) that holds xs. -/
def Own (enc : α → List Value) (sz : Nat) (e : TypeId) (w : World) (base : Nat) (v : Value) (xs : List α) : Prop := w.ownsRow base e sz v xs.length (xs.flatMap enc)

theorem Own.nil {e : TypeId} {base : Nat} : Own enc sz e w base (.slice none 0 0) [] := World.ownsRow_nil w base e sz
theorem Own.form {e : TypeId} {base : Nat} {v : Value} (h : Own enc sz e w base v xs) : ∃ A c, v = .slice A xs.length c := by
  rcases h.2 with ⟨rfl, h0⟩ | ⟨g, cap, cur, rfl, _⟩
  · rw [h0]; exact ⟨_, _, rfl⟩
  · exact ⟨_, _, rfl⟩
theorem Own.row {e : TypeId} {base : Nat} {c : Nat} (hs : ∀ x, (enc x).length = sz) (h : Own enc sz e w base (.slice A xs.length c) xs) : Row enc sz w w.heap.size A xs := by
  rcases h.2 with ⟨_, h⟩ | ⟨g, cap, cur, hv, hb, hg, h1, h2, h3, h4⟩
  · exact .inl (List.eq_nil_of_length_eq_zero h)
  · injection hv with hA _ _
    subst hA
    refine .inr ⟨g, 0, rfl, (Array.getElem?_eq_some_iff.1 hg).1, fun k x hk j v hv => ?_⟩
    have hj : j < sz := by rw [← hs x]; exact (List.getElem?_eq_some_iff.1 hv).1
    have hf := (flat_at hs xs k j x hk hj).trans hv
    have := World.ownsRow.cells h (g := g) rfl _ _ hf
    rw [Addr.add_lit] at this
    simpa using this
theorem Own.lt {e : TypeId} {base : Nat} {v : Value} (h : Own enc sz e w base v xs) : ∀ k, v.ownBlock = some k → base ≤ k ∧ k < w.heap.size := World.ownsRow.lt h
theorem Own.kept {e : TypeId} {base : Nat} {v : Value} {row : Option Nat} (h : Own enc sz e w base v xs) (hg : w.grownBy w' row) (hne : v.ownBlock = none ∨ v.ownBlock ≠ row) : Own enc sz e w' base v xs := World.ownsRow.kept h hg hne
theorem Own.alloc {e : TypeId} {base : Nat} {v : Value} (h : Own enc sz e w base v xs) (o : Obj) : Own enc sz e (w.alloc o) base v xs := World.ownsRow.alloc h o
theorem Own.below {e : TypeId} {base B : Nat} {v : Value} (h : Own enc sz e w base v xs) (hb : Below B w w') (hB : w.heap.size ≤ B) : Own enc sz e w' base v xs := by
  refine ⟨h.1, ?_⟩
  rcases h.2 with h | ⟨g, cap, cur, hv, h0, hg, h1⟩
  · exact .inl h
  · have := (Array.getElem?_eq_some_iff.1 hg).1
    exact .inr ⟨g, cap, cur, hv, h0, (hb.block g (by omega)).trans hg, h1⟩
theorem Own.weaken {e : TypeId} {base base' : Nat} {v : Value} (h : Own enc sz e w base v xs) (hb : base' ≤ base) : Own enc sz e w base' v xs := by
  refine ⟨h.1, ?_⟩
  rcases h.2 with h | ⟨g, cap, cur, hv, h0, hg, h1⟩
  · exact .inl h
  · exact .inr ⟨g, cap, cur, hv, by omega, hg, h1⟩
end

theorem Own.drewN {α : Type} {enc : α → List Value} {sz : Nat} {w : World} {xs : List α} {e : TypeId} {base : Nat} {v : Value} (h : Own enc sz e w base v xs) (n : Nat) : Own enc sz e (w.drewN n) base v xs := h
theorem Row.drewN {α : Type} {enc : α → List Value} {sz : Nat} {w : World} {xs : List α} {B : Nat} {A : Option Addr} (h : Row enc sz w B A xs) (n : Nat) : Row enc sz (w.drewN n) B A xs := h
theorem below_drewN' {B : Nat} {a w : World} (h : Below B a w) (n : Nat) : Below B a (w.drewN n) := ⟨h.os, h.tape, h.output, h.size, h.block⟩
theorem only_drewN' {w w' : World} {n : Nat} {row : Option Nat} (h : (w.drewN n).grownBy w' row) : w.grownBy w' row := ⟨h.os, h.tape, h.output, h.size, h.block⟩
theorem block_ne {α : Type} {enc : α → List Value} {sz : Nat} {e : TypeId} {w : World} {base n c : Nat} {A : Option Addr} {xs : List α} {v2 : Value} (h : Own enc sz e w base (.slice A n c) xs) (h2 : v2.ownBlock = none ∨ v2.ownBlock = some w.heap.size) :
    (Value.slice A n c).ownBlock = none ∨ (Value.slice A n c).ownBlock ≠ v2.ownBlock := by
  cases A with
  | none => exact .inl rfl
  | some a =>
    right
    intro e
    have := (h.lt a.block rfl).2
    rcases h2 with h2 | h2 <;> rw [h2] at e <;> simp [Value.ownBlock] at e
    omega

section
variable {P : Program} (w : World) {α : Type} (enc : α → List Value) (sz : Nat)

theorem append_none {base : Nat} {t ty e : TypeId} {i : TypeInfo} (ht : P.underlying t = some (.slice e)) (hi : P.info? e = some i) {v : Value} {n : Nat} {xs : List Value} (hown : w.ownsRow base e sz v n xs) (c : Nat) :
    (Builtin.append_ #[t, t] ty #[v, .slice none 0 c]).run P w = .ok v w := by
  rcases hown.2 with ⟨rfl, rfl⟩ | ⟨g, cap, cur, rfl, _, _, hnc, _⟩
  · simp [Builtin.append_, run_underlying ht, sizeOf, typeInfo, hi, Builtin.lenOf, Builtin.firstCells]
  · simp [Builtin.append_, run_underlying ht, sizeOf, typeInfo, hi, Builtin.lenOf, Builtin.firstCells, hnc, storeCells]

theorem wp_app {ops : Array Oper} {rest : List Oper} {o : Oper} {a : Act} {Q : Exit → Act → World → Prop} (hgd : o.guard = none) (s x : Operand) (t : TypeId)
    (ho : o.op = .call { callee := .builtin .append, args := #[s, x], argTypes := #[t, t] })
    (base : Nat) (e : TypeId) (bytes : Nat) (ht : P.underlying t = some (.slice e)) (hi : ∃ i z, P.info? e = some i ∧ i.zero = some z ∧ i.size = sz ∧ i.bytes = bytes ∧ z.cells.size = sz) (hsz : 0 < sz)
    (hs : ∀ x, (enc x).length = sz) (h1 : ∀ x, ∀ u ∈ enc x, u.oneCell' = true)
    (v : Value) (xs : List α) (hv : a.eval s = v) (hown : Own enc sz e w base v xs)
    (B : Nat) (A : Option Addr) (m c : Nat) (ys : List α) (hm : m = ys.length) (hx : a.eval x = .slice A m c) (hr : Row enc sz w B A ys)
    (hbytes : (xs.length + ys.length) * bytes ≤ 140737488355328) (h63 : xs.length + ys.length ≤ 140737488355328) (hbase : base ≤ w.heap.size)
    (h : ∀ v' w', Own enc sz e w' base v' (xs ++ ys) → w.grownBy w' v.ownBlock → (v'.ownBlock = v.ownBlock ∨ v'.ownBlock = some w.heap.size) → (v' = .slice none 0 0 ↔ v = .slice none 0 0 ∧ ys = []) → wpList P ops Q rest (a.put o.dst v') w') : wpList P ops Q (o :: rest) a w := by
  subst hm
  obtain ⟨i, z, hi, hz, hsize, hby, hzs⟩ := hi
  have key : ∃ v' w', (Builtin.append_ #[t, t] o.type #[v, .slice A ys.length c]).run P w = .ok v' w' ∧ Own enc sz e w' base v' (xs ++ ys) ∧ w.grownBy w' v.ownBlock ∧ (v'.ownBlock = v.ownBlock ∨ v'.ownBlock = some w.heap.size) ∧ (v' = .slice none 0 0 ↔ v = .slice none 0 0 ∧ ys = []) := by
    by_cases hy : A = none
    · subst hy
      have : ys = [] := by
        rcases hr with h | ⟨b, o, h, _⟩
        · exact h
        · cases h
      subst this
      exact ⟨v, w, append_none w sz ht hi hown c, by simpa using hown, World.grownBy.refl w _, .inl rfl, by simp⟩
    · obtain ⟨ad, rfl⟩ := Option.ne_none_iff_exists'.1 hy
      have hcells : ∀ j u, (ys.flatMap enc)[j]? = some u → w.cell? (ad.add j) = some u := by
        intro j u hj
        obtain ⟨k, j', y, rfl, hj', hk, hu⟩ := flat_inv hs ys j u hj
        obtain ⟨b, o, e', _, hc⟩ := hr.at_ hk
        injection e' with e'
        subst e'
        rw [Addr.add_lit, ← Nat.add_assoc]
        exact hc j' u hu
      obtain ⟨v', w', hrun, h2, h3, h5, h4⟩ := run_append_own_at (P := P) w base t o.type e i z sz bytes ht hi hz hsize hby hzs hsz v xs.length (xs.flatMap enc) hown ad ys.length c (ys.flatMap enc) (flat_len hs ys) hcells
        (by intro u hu; obtain ⟨y, _, hu⟩ := List.mem_flatMap.1 hu; exact h1 y u hu) (by unfold maxLen; omega) hbytes hbase
      refine ⟨v', w', hrun, ?_, h3, h4, h5.trans (by rw [List.length_eq_zero_iff])⟩
      unfold Own
      rw [List.length_append, List.flatMap_append]
      exact h2
  obtain ⟨v', w', hrun, h2, h3, h4, h5⟩ := key
  refine wpList_plain hgd fun _ hK => ?_
  unfold Oper.wp execOp
  simp only [ho, resolve, invoke, builtin, Sem.run_bind, Sem.run_pure, Result.andThen_ok, List.map_toArray, List.map_cons, List.map_nil, hv, hx, hrun]
  exact hK _ _ (h v' w' h2 h3 h4 h5)
end

theorem Own.cap {α : Type} {enc : α → List Value} {sz : Nat} {w : World} {A : Option Addr} {xs : List α} {e : TypeId} {base n c : Nat} (h : Own enc sz e w base (.slice A n c) xs) : n = xs.length ∧ n ≤ c := by
  rcases h.2 with ⟨h1, h2⟩ | ⟨g, cap, cur, hv, _, _, h1, _⟩
  · injection h1 with _ h3 h4; omega
  · injection hv with _ h3 h4; omega

section
variable {P : Program} (w : World) {α : Type} (enc : α → List Value) (sz : Nat)
/-- 's[l:h]' within the length. -/
theorem wp_cut {ops : Array Oper} {rest : List Oper} {o : Oper} {a : Act} {Q : Exit → Act → World → Prop} (hgd : o.guard = none) (x : Operand) (lo hi : Option Operand) (t : TypeId) (ho : o.op = .slice t x lo hi none)
    (e : TypeId) (ht : P.underlying t = some (.slice e)) (hsz : ∀ w, (sizeOf e).run P w = .ok sz w) (B : Nat) (A : Option Addr) (n c : Nat) (hx : a.eval x = .slice A n c) (xs : List α) (hn : n = xs.length) (hr : Row enc sz w B A xs)
    (l h : Nat) (hl : lo.map a.eval = if lo.isSome then some (.int .i64 l) else none) (hl0 : lo.isSome = false → l = 0) (hh : hi.map a.eval = if hi.isSome then some (.int .i64 h) else none) (hh0 : hi.isSome = false → h = n) (hlh : l ≤ h) (hhn : h ≤ n) (hnc : n ≤ c)
    (hK : ∀ A', Row enc sz w B A' ((xs.take h).drop l) → wpList P ops Q rest (a.put o.dst (.slice A' (h - l) (c - l))) w) : wpList P ops Q (o :: rest) a w := by
  have ht' : P.underlying t = some (.slice (P.elem t)) := by simp [Program.elem, ht]
  have he : P.elem t = e := by simp [Program.elem, ht]
  have key : (Instr.slice t (.slice A n c) (lo.map a.eval) (hi.map a.eval) none).run P w = .ok (.slice (if c = l then A else A.map (·.add (l * sz))) (h - l) (c - l)) w := by
    rw [hl, hh]
    cases lo <;> cases hi <;> simp only [Option.isSome_none, Option.isSome_some, if_true, Bool.false_eq_true, if_false] at hl0 hh0 ⊢
    · rw [run_slice_all w t A n c ht', he, hsz]
      have := hl0 trivial; have := hh0 trivial; subst_vars; rfl
    · rw [run_slice_h w t A n c ht' .i64 h (by omega) (by omega), he, hsz]
      have := hl0 trivial; subst this
      simp [Result.andThen, sliced]
    · rw [run_slice_l w t A n c ht' .i64 l (by omega) (by have := hh0 trivial; omega), he, hsz]
      have := hh0 trivial; subst this
      simp [Result.andThen, sliced]
    · rw [run_slice_lh w t A n c ht' .i64 .i64 l h (by omega) (by omega) (by omega), he, hsz]
      simp [Result.andThen, sliced]
  refine wpList_plain hgd fun _ hk => ?_
  unfold Oper.wp execOp
  simp only [ho, hx, Option.map_none, run_sliceAt_slice w t _ _ _ _ ht', Sem.run_bind, Sem.run_pure, Result.andThen_ok, key]
  exact hk _ _ (hK _ (hr.cut (by omega) (by omega)))
end

/-! A set that the call makes: map[int]bool, 'true' alone is stored. -/
section
open Go.Maps
variable {P : Program} {k e t : TypeId}

def BSet (P : Program) (k e : TypeId) (w : World) (b n : Nat) (S : List Int) : Prop :=
  ∃ D : DataW Unit, w.ownsMap P k (plainElem P e) b n D ∧ ∀ z, (Lit.int .i64 z).wf = true → D.atKey (.int .i64 z) (.lit (.bool false)) = .lit (.bool (S.contains z))

theorem BSet.made (w : World) : BSet P k e (w.alloc (.map #[] 0)) w.heap.size 0 [] :=
  ⟨_, World.ownsMap_made w P k _, fun z _ => by simp [DataW.atKey]⟩
theorem BSet.lt {w : World} {b n : Nat} {S : List Int} (h : BSet P k e w b n S) : b < w.heap.size := by
  obtain ⟨D, h, _⟩ := h; exact h.lt
theorem BSet.kept {w w' : World} {b n : Nat} {S : List Int} {row : Option Nat} (h : BSet P k e w b n S) (hg : w.grownBy w' row) (hne : some b ≠ row) : BSet P k e w' b n S := by
  obtain ⟨D, h, hk⟩ := h; exact ⟨D, h.kept hg hne, hk⟩
theorem BSet.alloc {w : World} {b n : Nat} {S : List Int} (h : BSet P k e w b n S) (o : Obj) : BSet P k e (w.alloc o) b n S := by
  obtain ⟨D, h, hk⟩ := h; exact ⟨D, h.alloc o, hk⟩
theorem BSet.below {w w' : World} {b n : Nat} {S : List Int} (h : BSet P k e w b n S) (hb : Below w.heap.size w w') : BSet P k e w' b n S :=
  h.kept (row := none) ⟨hb.os, hb.tape, hb.output, hb.size, fun i hi _ => hb.block i hi⟩ (by simp)
theorem BSet.drewN {w : World} {b n : Nat} {S : List Int} (h : BSet P k e w b n S) (m : Nat) : BSet P k e (w.drewN m) b n S :=
  h.kept (row := none) ⟨rfl, rfl, rfl, Nat.le_refl _, fun _ _ _ => rfl⟩ (by simp)
theorem BSet.obj {w : World} {b n : Nat} {S : List Int} (h : BSet P k e w b n S) : ∃ es c, w.heap[b]? = some (.map es c) := by
  obtain ⟨D, ⟨es, c, h, _⟩, _⟩ := h
  exact ⟨es, c, h⟩
theorem BSet.no_cell {w : World} {b n : Nat} {S : List Int} (h : BSet P k e w b n S) (p : Addr) (hp : p.block = b) : w.cell? p = none := by
  obtain ⟨es, c, h⟩ := h.obj
  unfold World.cell?
  rw [hp, h]
theorem cell_put {w w' : World} {b n : Nat} {S : List Int} (h : BSet P k e w b n S) (hg : w.grownBy w' (some b)) (p : Addr) {v : Value} (hc : w.cell? p = some v) : w'.cell? p = some v := by
  have hb : p.block ≠ b := fun e => by rw [h.no_cell p e] at hc; cases hc
  exact hg.cell hc (by intro e; injection e with e; exact hb e)
theorem Row.put {α : Type} {enc : α → List Value} {sz : Nat} {w w' : World} {B : Nat} {A : Option Addr} {xs : List α} {b n : Nat} {S : List Int} (hr : Row enc sz w B A xs) (h : BSet P k e w b n S) (hg : w.grownBy w' (some b)) : Row enc sz w' B A xs := by
  rcases hr with h0 | ⟨g, o, e, hb', hc⟩
  · exact .inl h0
  · exact .inr ⟨g, o, e, hb', fun i x hi j v hv => cell_put h hg _ (hc i x hi j v hv)⟩
theorem BSet.same {w : World} {b n : Nat} {S S' : List Int} (h : BSet P k e w b n S) (hs : ∀ z, S.contains z = S'.contains z) : BSet P k e w b n S' := by
  obtain ⟨D, h, hk⟩ := h; exact ⟨D, h, fun z hz => by rw [hk z hz, hs z]⟩
theorem plainElem_bool_inv {H : Type} (he : P.underlying e = some .bool) {v : Value} {z : DataW H × List MemPlace} (h : plainElem P e v = some z) : ∃ x, v = .bool x ∧ z = (.lit (.bool x), []) := by
  unfold plainElem at h
  rw [he] at h
  split at h
  · next heq => injection h with h; exact ⟨_, rfl, h.symm⟩
  · next h1 => injection h1 with h1; cases h1
  · next h1 => injection h1 with h1; cases h1
  · cases h

theorem BSet.look {w : World} {b n : Nat} {S : List Int} (h : BSet P k e w b n S) (K : Keyed P k) (hk : P.underlying k = some (.int .i64)) (ht : P.underlying t = some (.map k e)) (he : P.underlying e = some .bool)
    (hz : (zeroValue e).run P w = .ok (.bool false) w) (z : Int) (hw : (Lit.int .i64 z).wf = true) :
    (Instr.lookup t (.map (some b)) (.int .i64 z) false).run P w = .ok (.bool (S.contains z)) w := by
  obtain ⟨D, h, hD⟩ := h
  obtain ⟨v, ps, hrun, hR⟩ := h.lookup K ht hz (plainElem_bool he false) (keyOf_int_mk hk hw)
  obtain ⟨x, rfl, hx⟩ := plainElem_bool_inv he hR
  rw [hD z hw] at hx
  injection hx with hx _
  injection hx with hx
  injection hx with hx
  rw [hrun, hx]

theorem wp_put {ops : Array Oper} {rest : List Oper} {o : Oper} {a : Act} {Q : Exit → Act → World → Prop} (w : World) (hg : o.guard = none) (m x v : Operand) (t : TypeId) (hop : o.op = .mapUpdate t m x v)
    (k e : TypeId) (K : Keyed P k) (hk : P.underlying k = some (.int .i64)) (ht : P.underlying t = some (.map k e)) (he : P.underlying e = some .bool) (b n : Nat) (S : List Int) (hm : a.eval m = .map (some b)) (h : BSet P k e w b n S) (hn : n < maxLen)
    (z : Int) (hw : (Lit.int .i64 z).wf = true) (hx : a.eval x = .int .i64 z) (hv : a.eval v = .bool true)
    (hK : ∀ w', BSet P k e w' b (n + 1) (z :: S) → w.grownBy w' (some b) → wpList P ops Q rest (a.put o.dst undef) w') : wpList P ops Q (o :: rest) a w := by
  obtain ⟨D, h, hD⟩ := h
  have hkey := keyOf_int_mk (k := k) hk hw
  refine wpList_mapUpdate_own w hg m x v t hop k e K ht _ b n D hm h hn _ _ _ hx hv hkey _ _ (plainElem_bool he true) fun w' h' hg' => hK w' ⟨_, h', fun y hy => ?_⟩ hg'
  by_cases hyz : y = z
  · subst hyz
    rw [atKey_put_same h.isMap (by simp [WideAt.IsKeyLit])]
    simp
  · rw [atKey_put_other (by intro h; injection h with _ h; exact hyz h), hD y hy]
    simp [hyz]
end
end Go.Proofs.YtjoaldaldcpfeaaGreatDoor
