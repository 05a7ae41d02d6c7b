/-
  A part of the proof of what E53 says at its head.
-/
import Derived.Test.YtocogcgnahbpkaaGreatProg
import Derived.Test.YtocogcgnahbpkaaGreatE7
namespace Go.SL
open Go.Proofs
abbrev rowsT : List (Nat × Row) := [
  (3, ⟨false, 1, 8, [.int .i64 0], .int .i64⟩),
  (4, ⟨false, 1, 1, [.bool false], .bool⟩),
  (5, ⟨false, 1, 1, [.int .u8 0], .int .u8⟩),
  (9, ⟨false, 1, 16, [.string ⟨#[]⟩], .str⟩),
  (22, ⟨false, 1, 24, [.slice none 0 0], .slice 31⟩),
  (23, ⟨false, 1, 8, [.pointer none], .ptr 43⟩),
  (25, ⟨false, 1, 24, [.slice none 0 0], .slice 3⟩),
  (27, ⟨true, 6, 64, [.int .i64 0, .slice none 0 0, .int .i64 0, .int .i64 0, .int .i64 0, .int .i64 0], .strct [(0, 3, 1), (1, 25, 1), (2, 3, 1), (3, 3, 1), (4, 3, 1), (5, 3, 1)]⟩),
  (29, ⟨false, 1, 24, [.slice none 0 0], .slice 65⟩),
  (31, ⟨true, 6, 64, [.int .i64 0, .int .i64 0, .int .i64 0, .int .i64 0, .slice none 0 0, .bool false], .strct [(0, 3, 1), (1, 3, 1), (2, 3, 1), (3, 3, 1), (4, 29, 1), (5, 4, 1)]⟩),
  (35, ⟨false, 1, 8, [.pointer none], .ptr 52⟩),
  (37, ⟨false, 1, 24, [.slice none 0 0], .slice 35⟩),
  (38, ⟨false, 1, 24, [.slice none 0 0], .slice 59⟩),
  (39, ⟨false, 1, 8, [.map none], .map 3 3⟩),
  (40, ⟨false, 1, 8, [.map none], .map 150 3⟩),
  (41, ⟨false, 1, 8, [.map none], .map 3 67⟩),
  (43, ⟨true, 14, 160, [.int .i64 0, .slice none 0 0, .int .i64 0, .int .i64 0, .int .i64 0, .int .i64 0, .slice none 0 0, .slice none 0 0, .map none, .map none, .map none, .map none, .int .i64 0, .bool false], .strct [(0, 27, 6), (6, 37, 1), (7, 38, 1), (8, 39, 1), (9, 40, 1), (10, 41, 1), (11, 39, 1), (12, 3, 1), (13, 4, 1)]⟩),
  (45, ⟨true, 2, 16, [.int .i64 0, .int .i64 0], .strct [(0, 3, 1), (1, 3, 1)]⟩),
  (46, ⟨false, 1, 24, [.slice none 0 0], .slice 67⟩),
  (48, ⟨true, 5, 56, [.int .i64 0, .int .i64 0, .int .i64 0, .int .i64 0, .slice none 0 0], .strct [(0, 45, 2), (2, 3, 1), (3, 3, 1), (4, 46, 1)]⟩),
  (49, ⟨false, 1, 8, [.pointer none], .ptr 126⟩),
  (50, ⟨false, 1, 8, [.pointer none], .ptr 97⟩),
  (52, ⟨true, 12, 112, [.int .i64 0, .pointer none, .pointer none, .int .i64 0, .int .i64 0, .int .i64 0, .int .i64 0, .slice none 0 0, .int .i64 0, .int .i64 0, .int .i64 0, .int .i64 0], .strct [(0, 3, 1), (1, 49, 1), (2, 50, 1), (3, 48, 5), (8, 3, 1), (9, 3, 1), (10, 3, 1), (11, 3, 1)]⟩),
  (53, ⟨false, 1, 8, [.map none], .map 3 4⟩),
  (59, ⟨true, 10, 96, [.int .i64 0, .int .i64 0, .int .i64 0, .int .i64 0, .int .i64 0, .int .i64 0, .int .i64 0, .slice none 0 0, .bool false, .int .i64 0], .strct [(0, 3, 1), (1, 3, 1), (2, 3, 1), (3, 3, 1), (4, 3, 1), (5, 3, 1), (6, 3, 1), (7, 46, 1), (8, 4, 1), (9, 3, 1)]⟩),
  (61, ⟨true, 16, 160, [.int .i64 0, .int .i64 0, .int .i64 0, .int .i64 0, .int .i64 0, .int .i64 0, .int .i64 0, .int .i64 0, .int .i64 0, .slice none 0 0, .bool false, .int .i64 0, .slice none 0 0, .int .i64 0, .int .i64 0, .int .i64 0], .strct [(0, 3, 1), (1, 3, 1), (2, 59, 10), (12, 29, 1), (13, 3, 1), (14, 3, 1), (15, 3, 1)]⟩),
  (65, ⟨false, 1, 24, [.slice none 0 0], .slice 5⟩),
  (67, ⟨true, 3, 40, [.int .i64 0, .int .i64 0, .slice none 0 0], .strct [(0, 3, 1), (1, 3, 1), (2, 65, 1)]⟩),
  (80, ⟨true, 12, 144, [.int .i64 0, .int .i64 0, .bool false, .int .i64 0, .slice none 0 0, .slice none 0 0, .int .i64 0, .slice none 0 0, .int .i64 0, .int .i64 0, .int .i64 0, .int .i64 0], .strct [(0, 45, 2), (2, 4, 1), (3, 3, 1), (4, 46, 1), (5, 38, 1), (6, 3, 1), (7, 25, 1), (8, 3, 1), (9, 3, 1), (10, 3, 1), (11, 3, 1)]⟩),
  (83, ⟨false, 1, 8, [.int .i64 0], .int .i64⟩),
  (90, ⟨true, 6, 64, [.int .i64 0, .int .i64 0, .int .i64 0, .int .i64 0, .int .i64 0, .slice none 0 0], .strct [(0, 45, 2), (2, 3, 1), (3, 3, 1), (4, 3, 1), (5, 46, 1)]⟩),
  (91, ⟨false, 1, 24, [.slice none 0 0], .slice 136⟩),
  (93, ⟨true, 26, 320, [.int .i64 0, .slice none 0 0, .int .i64 0, .int .i64 0, .int .i64 0, .int .i64 0, .int .i64 0, .int .i64 0, .slice none 0 0, .int .i64 0, .int .i64 0, .int .i64 0, .int .i64 0, .int .i64 0, .int .i64 0, .int .i64 0, .int .i64 0, .int .i64 0, .slice none 0 0, .slice none 0 0, .slice none 0 0, .slice none 0 0, .slice none 0 0, .int .i64 0, .int .i64 0, .int .i64 0], .strct [(0, 27, 6), (6, 3, 1), (7, 3, 1), (8, 46, 1), (9, 3, 1), (10, 3, 1), (11, 3, 1), (12, 3, 1), (13, 3, 1), (14, 3, 1), (15, 3, 1), (16, 3, 1), (17, 3, 1), (18, 91, 1), (19, 25, 1), (20, 25, 1), (21, 38, 1), (22, 25, 1), (23, 3, 1), (24, 3, 1), (25, 3, 1)]⟩),
  (95, ⟨true, 2, 48, [.slice none 0 0, .slice none 0 0], .strct [(0, 29, 1), (1, 65, 1)]⟩),
  (97, ⟨true, 29, 376, [.pointer none, .int .i64 0, .slice none 0 0, .int .i64 0, .int .i64 0, .int .i64 0, .int .i64 0, .int .i64 0, .int .i64 0, .slice none 0 0, .int .i64 0, .int .i64 0, .int .i64 0, .int .i64 0, .int .i64 0, .int .i64 0, .int .i64 0, .int .i64 0, .int .i64 0, .slice none 0 0, .slice none 0 0, .slice none 0 0, .slice none 0 0, .slice none 0 0, .int .i64 0, .int .i64 0, .int .i64 0, .slice none 0 0, .slice none 0 0], .strct [(0, 49, 1), (1, 93, 26), (27, 95, 2)]⟩),
  (101, ⟨false, 1, 24, [.slice none 0 0], .slice 104⟩),
  (104, ⟨true, 3, 24, [.int .i64 0, .int .i64 0, .int .i64 0], .arr 3 3⟩),
  (107, ⟨false, 1, 24, [.slice none 0 0], .slice 61⟩),
  (123, ⟨false, 1, 24, [.slice none 0 0], .slice 129⟩),
  (126, ⟨true, 29, 280, [.int .i64 0, .slice none 0 0, .int .i64 0, .int .i64 0, .int .i64 0, .int .i64 0, .int .i64 0, .int .i64 0, .slice none 0 0, .int .i64 0, .int .i64 0, .int .i64 0, .int .i64 0, .int .i64 0, .int .i64 0, .int .i64 0, .map none, .map none, .map none, .int .i64 0, .int .i64 0, .map none, .map none, .int .i64 0, .slice none 0 0, .map none, .int .i64 0, .int .i64 0, .int .i64 0], .strct [(0, 27, 6), (6, 45, 2), (8, 46, 1), (9, 3, 1), (10, 3, 1), (11, 3, 1), (12, 3, 1), (13, 3, 1), (14, 3, 1), (15, 3, 1), (16, 39, 1), (17, 39, 1), (18, 53, 1), (19, 3, 1), (20, 3, 1), (21, 53, 1), (22, 53, 1), (23, 3, 1), (24, 38, 1), (25, 53, 1), (26, 3, 1), (27, 3, 1), (28, 3, 1)]⟩),
  (127, ⟨false, 1, 8, [.nilFunc], .func⟩),
  (129, ⟨true, 1, 8, [.nilFunc], .strct [(0, 127, 1)]⟩),
  (132, ⟨false, 1, 8, [.pointer none], .ptr 93⟩),
  (133, ⟨false, 1, 8, [.pointer none], .ptr 95⟩),
  (136, ⟨true, 4, 32, [.int .i64 0, .int .i64 0, .int .i64 0, .bool false], .strct [(0, 3, 1), (1, 3, 1), (2, 3, 1), (3, 4, 1)]⟩),
  (148, ⟨false, 1, 8, [.nilFunc], .func⟩),
  (150, ⟨true, 2, 16, [.int .i64 0, .int .i64 0], .strct [(0, 3, 1), (1, 3, 1)]⟩),
  (161, ⟨false, 1, 8, [.nilFunc], .func⟩),
  (163, ⟨true, 1, 8, [.nilFunc], .strct [(0, 161, 1)]⟩),
  (164, ⟨false, 1, 24, [.slice none 0 0], .slice 163⟩)]
instance : Tab Tryz.prog := ⟨rowsT, by kernel_rfl⟩
theorem mixed : Tryz.prog.follows .mixedOrders = true := by kernel_rfl
end Go.SL
namespace Go.SL
open Go.Proofs
attribute [local irreducible] W RS RG RD Fn FnQ OpS QOp Own Sat Rd Gr
set_option maxRecDepth 10000
theorem nil_of {w : World} {L L' : List HP} {X : HP} {A : Option Addr} {cs : List Value} (hX : Reads X A cs) (hp : Pick X L L') (h : Sat w L) : A = none → cs = [] := fun hA => by
  cases cs with
  | nil => rfl
  | cons v vs => obtain ⟨g, off, h', _⟩ := Rd.cell ((h.ent hp.ent).lend hX) (k := 0) (v := v) rfl; rw [hA] at h'; cases h'
theorem allBc (l : List Int) : (l.map bc).all isOne = true := by simp [bc, isOne]
def Cloned (X : HP) (l : List Int) : Fin := fun v L => ∃ A' c', v = .slice A' l.length c' ∧ L = [Gr 1 5 A' l.length c' (l.map bc), X]
theorem bclone_ok {X : HP} {A : Option Addr} {c : Nat} {l : List Int} (hX : Reads X A (l.map bc)) (hl : l.length ≤ 140737488351232) :
    Fn Tryz.prog 79 [.slice A l.length c].toArray [X] (Cloned X l) := by
  refine Fn.enter Tryz.func79 rfl (by kernel_rfl) rfl ?_
  refine W.fact (fun w h => nil_of hX .hd h) fun hnil => ?_
  refine run ?_
  refine RS.quiet rfl rfl rfl (Q.eqNilS rfl rfl rfl rfl rfl) ?_
  cases A with
  | none =>
    have := hnil rfl
    have hl0 : l = [] := by simpa using this
    subst hl0
    refine run ?_
    refine W.ent (Ent.mk (X := Gr 1 5 none 0 0 []) fun r => .nil) ?_
    exact .retE Tryz.func79 ⟨none, 0, rfl, rfl⟩
  | some a =>
    refine run ?_
    refine RS.any rfl rfl rfl (N.buildSlice0 rfl rfl rfl rfl).op ?_
    rintro v L ⟨z, rfl, rfl⟩
    refine run ?_
    refine RS.any rfl rfl rfl (O.append rfl rfl rfl rfl rfl rfl rfl rfl .hd (Src.pick rfl rfl .hd hX (by simp) rfl (allBc l)) (by unfold maxLen; omega) (by show (0 + l.length) * 1 ≤ _; omega)) ?_
    rintro v L ⟨A', c', rfl, rfl⟩
    simp only [Nat.zero_add, List.nil_append]
    refine run ?_
    exact .retE Tryz.func79 ⟨A', c', rfl, rfl⟩
structure EM where
  idx : Int
  term : Int
  data : List Int
structure LE where
  e : EM
  A : Option Addr
  c : Nat
def encLE (x : LE) : List Value := [.int .i64 x.e.idx, .int .i64 x.e.term, .slice x.A x.e.data.length x.c]
def Ds (l : List LE) : HP := fun r => ∀ x ∈ l, Rd false x.A (x.e.data.map bc) r
def Gs : List LE → HP
  | [] => fun _ => True
  | x :: l => Stars [Gr 1 5 x.A x.e.data.length x.c (x.e.data.map bc), Gs l]
theorem Gs.ds : ∀ {l : List LE} {r : Res}, Gs l r → Ds l r
  | [], _, _ => fun _ h => nomatch h
  | x :: l, r, ⟨r1, r2, a, b, c, d, s1, s2, a', b', c', d', _⟩ => fun y hy => by
    rcases List.mem_cons.1 hy with rfl | hy
    · exact (Gr.rd d).lend.le a
    · exact ((Gs.ds d' y hy).le a').le b
theorem Gs.snoc {x : LE} : ∀ {l : List LE} {L : List HP}, Ent (Gs l :: Gr 1 5 x.A x.e.data.length x.c (x.e.data.map bc) :: L) (Gs (l ++ [x]) :: L)
  | [], L => ((Ent.drop _).trans (Ent.mk (X := Gs []) fun _ => trivial)).trans (((Pick.tl Pick.hd).ent).trans (Ent.unstar (l := [_, _])))
  | y :: l, L => by
    refine (Ent.star (l := [_, _]) (m := _ :: L)).trans ?_
    refine (Ent.cons _ (Gs.snoc (l := l) (L := L))).trans ?_
    exact Ent.unstar (l := [_, _]) (m := L)
def DRead (D : HP) (l : List LE) : Prop := ∀ r, D r → Ds l r
theorem DRead.at_ {D : HP} {l : List LE} (h : DRead D l) {x : LE} (hx : x ∈ l) : Reads D x.A (x.e.data.map bc) := fun r hr => h r hr x hx
theorem DRead.gs {l : List LE} : DRead (Gs l) l := fun _ h => h.ds
theorem lenLE (x : LE) : (encLE x).length = 3 := rfl
theorem allLE (l : List LE) : (l.flatMap encLE).all isOne = true := by simp [encLE, isOne]
def Copied (X D : HP) (l : List LE) : Fin := fun v L => ∃ l' : List LE, ∃ A' c', v = .slice A' l'.length c' ∧ l'.map (·.e) = l.map (·.e) ∧ L = [Gr 3 67 A' l'.length c' (l'.flatMap encLE), Gs l', X, D]
structure Cp (l : List LE) where
  k : Nat
  o : List LE
  A : Option Addr
  c : Nat
theorem copied_ok {X D : HP} {A : Option Addr} {c : Nat} {l : List LE} (hX : Reads X A (l.flatMap encLE)) (hD : DRead D l) (hl : l.length ≤ 1099511627776) (hd : ∀ x ∈ l, x.e.data.length ≤ 140737488351232) :
    Fn Tryz.prog 58 [.slice A l.length c].toArray [X, D] (Copied X D l) := by
  refine Fn.enter Tryz.func58 rfl (by kernel_rfl) rfl ?_
  refine run ?_
  refine W.ent ((Ent.mk (X := Gr 3 67 none 0 0 []) fun r => .nil).trans (Ent.mk (X := Gs []) fun _ => trivial)) ?_
  refine W.loopH (ι := Cp l) (fun i => i.k ≤ l.length ∧ i.o.map (·.e) = (l.take i.k).map (·.e)) (fun i => [(3, .slice i.A i.o.length i.c), (6, .slice A l.length c), (7, .int .i64 l.length), (8, .int .i64 i.k)])
    (fun i => [Gs i.o, Gr 3 67 i.A i.o.length i.c (i.o.flatMap encLE), X, D]) (fun i => l.length - i.k) ⟨0, [], none, 0⟩ ⟨Nat.zero_le _, rfl⟩ subs (.refl _) ?_
  rintro ⟨k, o, A1, c1⟩ ⟨hk, ho⟩ ih
  dsimp only at hk ho
  have hol : o.length = k := by have := congrArg List.length ho; simp only [List.length_map, List.length_take] at this; omega
  dsimp only at ih ⊢
  by_cases hlt : k < l.length
  · obtain ⟨x, hx⟩ : ∃ x, l[k]? = some x := ⟨_, List.getElem?_eq_getElem hlt⟩
    have hxm : x ∈ l := List.mem_of_getElem? hx
    refine W.fact (fun w h => IsA.of (k := k * 3) hX (by exact pick) (by rw [flat_len lenLE]; omega) h) fun hA => ?_
    refine run ?_
    refine .new fun z => ?_
    refine run ?_
    refine .callE (bclone_ok (hD.at_ hxm) (hd x hxm)) ?_
    rintro v L ⟨A2, c2, rfl, rfl⟩
    refine run ?_
    refine .lit fun z2 => ?_
    refine run ?_
    refine .push (m := 1) (Src.pick rfl rfl .hd .own rfl rfl rfl) fun A3 c3 => ?_
    refine run ?_
    have h2 := ih ⟨k + 1, o ++ [⟨x.e, A2, c2⟩], A3, c3⟩ ⟨by dsimp only; omega, by rw [List.take_add_one, hx]; simp [ho]⟩ (by dsimp only; omega)
    simp only [List.length_append, List.length_singleton, List.flatMap_append, List.flatMap_singleton] at h2
    exact .ent ((Picks.sub (a := [Gs o, Gr 1 5 A2 _ c2 _, Gr 3 67 A3 _ c3 _, X, D]) picks).trans (Gs.snoc (x := ⟨x.e, A2, c2⟩))) (.back h2)
  · refine run ?_
    have hkl : k = l.length := by omega
    refine .retE Tryz.func58 ⟨o, A1, c1, rfl, by rw [ho, hkl, List.take_length], rfl⟩
end Go.SL
