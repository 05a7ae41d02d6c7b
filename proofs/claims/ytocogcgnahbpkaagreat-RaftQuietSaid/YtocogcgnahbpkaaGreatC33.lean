import Derived.Test.YtocogcgnahbpkaaGreatC12
import Derived.Test.YtocogcgnahbpkaaGreatC32
namespace Go.Proofs.YtocogcgnahbpkaaGreat
open Go.RowKit
section
variable {P:Program} {ops:Array Oper} {Q:Exit→Act→World→Prop} {md:Region.Mode} {S:World→Prop} {oi:Oper} {fuel:Nat} {listed l':Array Bool} {a a':Act} {w:World}
theorem tkG290 (i:Nat) (v:Value) (h:wpAnyH P md ops Q S fuel l' a' w) (hh:Tk ops Q md S oi listed l' a a' w i v:=by exact tkm) (hw:Region.wanted oi (yielded ops a.tmps)=true:=by rfl) (hv:∀ w,S w→(execOp a.eval oi).run P w=.ok (.value v) w:=by
  intro w hSw;have e0:w.cell? ⟨z,0,none⟩=some (.int .i64 (kind:Int)):=cell_block hSw 0 _ rfl;go_simp):wpAnyH P md ops Q S (fuel+1) listed a w:=tk i v hv h hh hw
theorem tkG291 (i:Nat) (v:Value) (h:wpAnyH P md ops Q S fuel l' a' w) (hh:Tk ops Q md S oi listed l' a a' w i v:=by exact tkm) (hw:Region.wanted oi (yielded ops a.tmps)=true:=by rfl) (hv:∀ w,S w→(execOp a.eval oi).run P w=.ok (.value v) w:=by
  intro w hSw;obtain ⟨hS1,hS2⟩:=hSw;have n6:=nc6 hS1;have n7:=nc7 hS1;have n26:=nc26 hS1;have n11:=nc11 hS1;have n12:=nc12 hS1;have n13:=nc13 hS1;have n27:=nc27 hS1;have n28:=nc28 hS1;have n24:=nc24 hS1;have u0:w.cell? ⟨z+3,0,none⟩=some (.int .i64 s.term):=cell_block hS2 0 _ rfl;have u1:w.cell? ⟨z+3,1,none⟩=some (.int .i64 s.vote):=cell_block hS2 1 _ rfl;clear hS1 hS2;go_simp):wpAnyH P md ops Q S (fuel+1) listed a w:=tk i v hv h hh hw
theorem tkG292 (i:Nat) (v:Value) (h:wpAnyH P md ops Q S fuel l' a' w) (hh:Tk ops Q md S oi listed l' a a' w i v:=by exact tkm) (hw:Region.wanted oi (yielded ops a.tmps)=true:=by rfl) (hv:∀ w,S w→(execOp a.eval oi).run P w=.ok (.value v) w:=by
  intro w hSw;have n8:=nc8 hSw;have n26:=nc26 hSw;have n9:=nc9 hSw;clear hSw;go_simp):wpAnyH P md ops Q S (fuel+1) listed a w:=tk i v hv h hh hw
end
section
variable {w w1 w2:World} {F G:Nat→Prop} {b:Nat} {cf:Rf.Cfg} {draw:Int} {l0:List Rf.Ent} {p:Rf.Nd} {ms:List Rf.Msg}
set_option maxRecDepth 100000 in
set_option maxHeartbeats 20000000 in
theorem StepG_any (tv:Bool) (b:Nat) (s:NS) (c:NC) (kind:Nat) (draw:Int) (f:Nat) (m0 m1 m2 m3 m4 m5 m6 m7 m8 m9 k12 k13 k14 k15:Value) (F:Nat→Prop) (P:NS→NC→Prop) (w:World) (h:NdAt w F (fun _=>False) b s c) (hkind:1≤kind∧kind≤7) (hact:actCells[kind]?=some (.func (.func f) #[] #[])) (heg:∀ args w,(callFunc f args).run Tryz.prog w=.ok (.enter f args) w)
  (hms:c.msgs=[]∧c.mA=none∧c.mn=0∧c.mc=0) (hP:∀ s' c',P s' c'→StepOK s' c'∧(tv=true↔¬ (s'.term=s.term∧s'.vote=s.vote)))
  (hh:∀ (W:World) (F0:Nat→Prop) (c0:NC),NdAt W F0 (fun _=>False) b { s with draw:=draw,from_:=0,first:=0,last:=0 } c0→(∃ z,c0={ c with snR:=some z,sn:=[] })→Chg F w W→(∀ i,F0 i→F i∨w.heap.size≤i) →
   Calls Tryz.prog f #[.pointer (some ⟨b,0,none⟩),.agg #[.int .i64 (kind:Int),.int .i64 draw,m0,m1,m2,m3,m4,m5,m6,m7,m8,m9,k12,k13,k14,k15]] W fun e w'=>e=.returned (.int .i64 0)∧∃ s' c' F' G',HandG P b F0 W w' s' c' F' G') :
  Calls Tryz.prog 32 #[.pointer (some ⟨b,0,none⟩),.agg #[.int .i64 (kind:Int),.int .i64 draw,m0,m1,m2,m3,m4,m5,m6,m7,m8,m9,k12,k13,k14,k15]] w fun e w'=>∃ s' c' F' G' eA en ec qs sA sn sc S,e=.returned (.tuple #[readyG tv s' c' eA en ec sA sn sc,.int .i64 0])∧SteppedG P w w' F b s' c' F' G' eA en ec qs sA sn sc S:=by
 have HPP:=ld hP
 have HEG:=ld heg
 have HACT:=ld hact
 have hw1:decide ((1:Int)≤(kind:Int)∧(kind:Int)≤7)=true:=decide_eq_true (by omega)
 have HK:=ld hkind
 clear hP heg hact
 go_enter Tryz.func32,Tryz.ntmps32
 go_wp2_with (fail)
 have hb0:Below w.heap.size w ((w.alloc (.cells #[.int .i64 (kind:Int),.int .i64 draw,m0,m1,m2,m3,m4,m5,m6,m7,m8,m9,k12,k13,k14,k15] 61)).alloc (.cells #[.int .i64 0,.int .i64 0,.bool false,.int .i64 0,.slice none 0 0,.slice none 0 0,.int .i64 0,.slice none 0 0,.int .i64 0,.int .i64 0,.int .i64 0,.int .i64 0] 80)):=(below_one w _).alloc (by simp) _
 have he0:((w.alloc (.cells #[.int .i64 (kind:Int),.int .i64 draw,m0,m1,m2,m3,m4,m5,m6,m7,m8,m9,k12,k13,k14,k15] 61)).alloc (.cells #[.int .i64 0,.int .i64 0,.bool false,.int .i64 0,.slice none 0 0,.slice none 0 0,.int .i64 0,.slice none 0 0,.int .i64 0,.int .i64 0,.int .i64 0,.int .i64 0] 80)).heap[w.heap.size]?=some (.cells #[.int .i64 (kind:Int),.int .i64 draw,m0,m1,m2,m3,m4,m5,m6,m7,m8,m9,k12,k13,k14,k15] 61 (0,0)):=block_alloc (World.alloc_at w _) _
 have hr0:((w.alloc (.cells #[.int .i64 (kind:Int),.int .i64 draw,m0,m1,m2,m3,m4,m5,m6,m7,m8,m9,k12,k13,k14,k15] 61)).alloc (.cells #[.int .i64 0,.int .i64 0,.bool false,.int .i64 0,.slice none 0 0,.slice none 0 0,.int .i64 0,.slice none 0 0,.int .i64 0,.int .i64 0,.int .i64 0,.int .i64 0] 80)).heap[w.heap.size+1]?=some (.cells #[.int .i64 0,.int .i64 0,.bool false,.int .i64 0,.slice none 0 0,.slice none 0 0,.int .i64 0,.slice none 0 0,.int .i64 0,.int .i64 0,.int .i64 0,.int .i64 0] 80 (0,0)):=by
  have:=World.alloc_at (w.alloc (.cells #[.int .i64 (kind:Int),.int .i64 draw,m0,m1,m2,m3,m4,m5,m6,m7,m8,m9,k12,k13,k14,k15] 61)) (.cells #[.int .i64 0,.int .i64 0,.bool false,.int .i64 0,.slice none 0 0,.slice none 0 0,.int .i64 0,.slice none 0 0,.int .i64 0,.int .i64 0,.int .i64 0,.int .i64 0] 80)
  rwa [World.alloc_size] at this
 have hz0:((w.alloc (.cells #[.int .i64 (kind:Int),.int .i64 draw,m0,m1,m2,m3,m4,m5,m6,m7,m8,m9,k12,k13,k14,k15] 61)).alloc (.cells #[.int .i64 0,.int .i64 0,.bool false,.int .i64 0,.slice none 0 0,.slice none 0 0,.int .i64 0,.slice none 0 0,.int .i64 0,.int .i64 0,.int .i64 0,.int .i64 0] 80)).heap.size=w.heap.size+2:=by simp
 generalize (w.alloc (.cells #[.int .i64 (kind:Int),.int .i64 draw,m0,m1,m2,m3,m4,m5,m6,m7,m8,m9,k12,k13,k14,k15] 61)).alloc (.cells #[.int .i64 0,.int .i64 0,.bool false,.int .i64 0,.slice none 0 0,.slice none 0 0,.int .i64 0,.slice none 0 0,.int .i64 0,.int .i64 0,.int .i64 0,.int .i64 0] 80)=W0 at hb0 he0 hr0 hz0 ⊢
 have HN0:=ld (h.below hb0)
 have HE0:=ld he0
 have HR0:=ld hr0
 have HZ0:=ld hz0
 have hF:=ld (show ∀ i,F i→i<w.heap.size from h.rest.bdF)
 obtain ⟨z,hz⟩:∃ z,z=w.heap.size:=⟨_,rfl⟩
 rw [←hz] at hb0 HE0 HR0 HZ0 hF
 rw [←hz]
 have HZ:=ld hz
 clear h he0 hr0 hz0 hz
 have ek:W0.cell? ⟨z,0,none⟩=some (.int .i64 (kind:Int)):=cell_block HE0.out 0 _ rfl
 have m1x:z<W0.heap.size:=by have:=HZ0.out;omega
 have hw7:IntKind.i64.wrap 7=7:=by decide
 have hk1:decide ((1:Int)≤(kind:Int))=true:=decide_eq_true (by have:=HK.out;omega)
 have hk7:decide ((kind:Int)≤7)=true:=decide_eq_true (by have:=HK.out;omega)
 have hk0:(0:Int)≤(kind:Int):=by omega
 have hk8:(kind:Int)<8:=by have:=HK.out;omega
 go_region_held3 (fun w'=>w'.cell? ⟨z,0,none⟩=some (.int .i64 (kind:Int))) (first | go_keep | (go_split_ands;exact ((bcell hb1).1 _ _ m1x).trans ek))
  (first
   | (go_at_call 56;refine (steps_any _).mono ?_;rintro e w1 ⟨rfl,rfl⟩)
   | (go_at_call 55;refine (within_any _ _ _ _).mono ?_;rintro e w1 ⟨rfl,rfl⟩))
 clear hw7 hk1 hk7 ek hw1
 have hb1:Below W0.heap.size W0 (W0.alloc (.cells actCells 129)).drew:=(below_one W0 _).drew
 have hz1:(W0.alloc (.cells actCells 129)).drew.heap.size=z+3:=by show (W0.alloc _).heap.size=_;rw [World.alloc_size,HZ0.out]
 generalize (W0.alloc (.cells actCells 129)).drew=W1 at hb1 hz1 ⊢
 have HN1:=ld (HN0.out.below hb1)
 have HE1:=ld ((hb1.block z m1x).trans HE0.out)
 have HR1:=ld ((hb1.block (z+1) (block_lt HR0.out)).trans HR0.out)
 have hbb1:Below z w W1:=by have:=hb0.size;exact hb0.trans (hb1.mono (by omega))
 have HZ1:=ld hz1
 clear HN0 HE0 HR0 HZ0 hb0 hb1 hz1 m1x
 have hB:=HN1.out.blk
 have c6:=nc6 hB
 have c7:=nc7 hB
 have hlb:b<W1.heap.size:=HN1.out.lt
 have e1:W1.cell? ⟨z,1,none⟩=some (.int .i64 draw):=cell_block HE1.out 1 _ rfl
 have hlz:z<W1.heap.size:=block_lt HE1.out
 clear hB
 go_wp2_with (fail)
 rw [run_makeMap,World.alloc_size,HZ1.out]
 have hb2:Below W1.heap.size W1 ((W1.alloc (.cells #[.int .i64 s.term,.int .i64 s.vote] 45)).alloc (.map #[] 0)):=(below_one W1 _).alloc (by simp) _
 have hm2:MB ((W1.alloc (.cells #[.int .i64 s.term,.int .i64 s.vote] 45)).alloc (.map #[] 0)) (z+3+1) []:=by
  have:=MapG.made (P:=Tryz.prog) (k:=3) (kenc:=Value.int .i64) (venc:=fun _:Unit=>Value.bool true) (W1.alloc (.cells #[.int .i64 s.term,.int .i64 s.vote] 45))
  rwa [World.alloc_size,HZ1.out] at this
 have hh2:((W1.alloc (.cells #[.int .i64 s.term,.int .i64 s.vote] 45)).alloc (.map #[] 0)).heap[z+3]?=some (.cells #[.int .i64 s.term,.int .i64 s.vote] 45 (0,0)):=by
  rw [←HZ1.out];exact block_alloc (World.alloc_at W1 _) _
 have hz2:((W1.alloc (.cells #[.int .i64 s.term,.int .i64 s.vote] 45)).alloc (.map #[] 0)).heap.size=z+5:=by rw [World.alloc_size,World.alloc_size,HZ1.out]
 generalize (W1.alloc (.cells #[.int .i64 s.term,.int .i64 s.vote] 45)).alloc (.map #[] 0)=W2 at hb2 hm2 hh2 hz2 ⊢
 have HN2:=ld (HN1.out.below hb2)
 have HN2':=ld (step_maps (draw:=draw) HN1.out hb2 (by have:=HZ1.out;omega) hm2 hms)
 have HE2:=ld ((hb2.block z hlz).trans HE1.out)
 have HR2:=ld ((hb2.block (z+1) (block_lt HR1.out)).trans HR1.out)
 have HH2:=ld hh2
 have hbb2:Below z w W2:=by have:=HZ1.out;exact hbb1.trans (hb2.mono (by omega))
 have HZ2:=ld hz2
 clear c6 c7 hlb e1 hlz HN1 HE1 HR1 hbb1 HZ1 hb2 hm2 hh2 hz2
 have hB:=HN2.out.blk
 have c23:=nc23 hB
 have c24:=nc24 hB
 have c25:=nc25 hB
 have c26:=nc26 hB
 have c27:=nc27 hB
 have c28:=nc28 hB
 have hf:=frozen_block hB
 clear hB
 go_upto_region 5 with (fail)
 have hbF:b<z:=hF.out b HN2.out.hb
 have hot:∀ i,i≠b→(((((((W2.setCell ⟨b,23,none⟩ (.int .i64 draw)).setCell ⟨b,24,none⟩ (.slice none 0 0)).setCell ⟨b,25,none⟩ (.map (some (z+3+1)))).setCell ⟨b,26,none⟩ (.int .i64 0)).setCell ⟨b,27,none⟩ (.int .i64 0)).setCell ⟨b,28,none⟩ (.int .i64 0))).heap[i]?=W2.heap[i]?:=fun i hi=>by
  rw [Below.heap_setCell _ _ _ _ hi,Below.heap_setCell _ _ _ _ hi,Below.heap_setCell _ _ _ _ hi,Below.heap_setCell _ _ _ _ hi,Below.heap_setCell _ _ _ _ hi,Below.heap_setCell _ _ _ _ hi]
 have HE3:=ld ((hot z (by omega)).trans HE2.out)
 have HR3:=ld ((hot (z+1) (by omega)).trans HR2.out)
 have HH3:=ld ((hot (z+3) (by omega)).trans HH2.out)
 have hC3:Chg F w (((((((W2.setCell ⟨b,23,none⟩ (.int .i64 draw)).setCell ⟨b,24,none⟩ (.slice none 0 0)).setCell ⟨b,25,none⟩ (.map (some (z+3+1)))).setCell ⟨b,26,none⟩ (.int .i64 0)).setCell ⟨b,27,none⟩ (.int .i64 0)).setCell ⟨b,28,none⟩ (.int .i64 0))):=by
  have hbb:Chg F w W2:=Chg.ofBelow (by rw [←HZ.out];exact hbb2)
  exact chgF (chgF (chgF (chgF (chgF (chgF hbb HN2.out.hb _) HN2.out.hb _) HN2.out.hb _) HN2.out.hb _) HN2.out.hb _) HN2.out.hb _
 have hz3:(((((((W2.setCell ⟨b,23,none⟩ (.int .i64 draw)).setCell ⟨b,24,none⟩ (.slice none 0 0)).setCell ⟨b,25,none⟩ (.map (some (z+3+1)))).setCell ⟨b,26,none⟩ (.int .i64 0)).setCell ⟨b,27,none⟩ (.int .i64 0)).setCell ⟨b,28,none⟩ (.int .i64 0))).heap.size=z+5:=by simp only [World.setCell,Array.size_modify];exact HZ2.out
 clear hot HE2 HR2 HH2 hbb2 HZ2 HN2 c23 c24 c25 c26 c27 c28 hf
 have HN3:=HN2'
 clear HN2'
 generalize ((((((W2.setCell ⟨b,23,none⟩ (.int .i64 draw)).setCell ⟨b,24,none⟩ (.slice none 0 0)).setCell ⟨b,25,none⟩ (.map (some (z+3+1)))).setCell ⟨b,26,none⟩ (.int .i64 0)).setCell ⟨b,27,none⟩ (.int .i64 0)).setCell ⟨b,28,none⟩ (.int .i64 0))=W3 at HN3 HE3 HR3 HH3 hC3 hz3 ⊢
 have HZ3:=ld hz3
 have HC3:=ld hC3
 clear hz3 hC3
 obtain ⟨c0,hc0⟩:∃ c0:NC,c0={ c with snR:=some (z+3+1),sn:=[] }:=⟨_,rfl⟩
 obtain ⟨F0,hF0⟩:∃ F0:Nat→Prop,F0=fun i=>F i∨i=z+3+1:=⟨_,rfl⟩
 rw [←hc0,←hF0] at HN3
 have HC0:=ld hc0
 have HF0:=ld hF0
 have HHc:=ld (hh (W3.alloc (.cells actCells 129)).drew F0 c0 (HN3.out.below (below_one W3 _).drew) ⟨_,hc0⟩ (HC3.out.alloc _).drew (fun i hi=>by
  rw [hF0] at hi
  rcases hi with hi | hi
  ·exact .inl hi
  ·right
   have:=HZ.out
   omega))
 clear hc0 hF0 hh
 go_cut [7] (fun v wx=>v=.int .i64 0∧Hid (∃ s' c' F' G',HandG P b F0 W3 wx s' c' F' G'))
 case first =>
  have hlz:z<W3.heap.size:=by have:=HZ3.out;omega
  have HZF:=ld (show ¬ F0 z from fun h=>by rw [HF0.out] at h;rcases h with h | h;have:=hF.out z h;omega;omega)
  have HE3d:Hid (W3.drew.heap[z]?=some (.cells #[.int .i64 (kind:Int),.int .i64 draw,m0,m1,m2,m3,m4,m5,m6,m7,m8,m9,k12,k13,k14,k15] 61 (0,0))):=ld HE3.out
  have ha:(W3.alloc (.cells actCells 129)).cell? ⟨W3.heap.size,kind,none⟩=some (.func (.func f) #[] #[]):=cell_block (World.alloc_at W3 _) kind _ HACT.out
  refine wp_region_held_drew (S:=fun W:World=>W.heap[z]?=some (.cells #[.int .i64 (kind:Int),.int .i64 draw,m0,m1,m2,m3,m4,m5,m6,m7,m8,m9,k12,k13,k14,k15] 61 (0,0))) (by kernel_rfl) HE3d.out (fun hHeld=>?_)
  refine tkG290 1 (.pointer (some ⟨z,0,none⟩)) ?_
  refine tkG290 2 (.int .i64 (kind:Int)) ?_
  refine tkG290 6 (.pointer (some ⟨b,0,none⟩)) ?_
  refine tk 7 (.agg #[.int .i64 (kind:Int),.int .i64 draw,m0,m1,m2,m3,m4,m5,m6,m7,m8,m9,k12,k13,k14,k15]) ?_ ?_
  ·intro w hSw;obtain ⟨e0,e1,e2,e3,e4,e5,e6,e7,e8,e9,e10,e11,e12,e13,e14,e15⟩:=cells16 hSw;go_simp
  refine rdy 0 fun K hK=>?_
  go_simp
  refine (steps_any _).mono ?_
  rintro e w4 ⟨rfl,rfl⟩
  go_wp2_with fail
  refine hks hK ?_ fun hHeld=>?_
  ·exact block_alloc HE3.out _
  clear hK K
  refine tk 3 (.pointer (some ⟨W3.heap.size,kind,none⟩)) ?_ ?_
  ·intro w hSw;have e0:w.cell? ⟨z,0,none⟩=some (.int .i64 (kind:Int)):=cell_block hSw 0 _ rfl;have h9:(kind:Int)<8:=by have:=HK.out;omega
   go_simp
  refine tkG290 4 (.pointer (some ⟨W3.heap.size,kind,none⟩)) ?_
  refine rdy 5 fun K hK=>?_
  go_simp
  refine hks hK ?_ fun hHeld=>?_
  ·exact by assumption
  clear hK K
  refine rdy 8 fun K hK=>?_
  have heg:=HEG.out
  go_simp
  clear heg
  refine HHc.out.mono ?_
  rintro e w5 ⟨rfl,s5,c5,F5,G5,hH5⟩
  have hE5:=(hH5.chg.keep (by show z<(W3.alloc _).heap.size;rw [World.alloc_size];omega) HZF.out).trans (block_alloc HE3.out _)
  have HH5:=ld (hH5.from (W0:=W3) ((Chg.refl (F:=F0)).alloc _).drew)
  clear hH5
  go_wp2_with fail
  refine hks hK ?_ fun hHeld=>?_
  ·exact hE5
  clear hK K
  refine tkG290 9 (.int .i64 0) ?_
  refine don ?_
  go_wp2_with fail
  go_meet
  exact ⟨rfl,ld ⟨s5,c5,F5,G5,HH5.out⟩⟩
 case rest =>
  obtain ⟨rfl,hHh⟩:=hcut
  obtain ⟨s',c',F',G',hH⟩:=hHh.out
  clear hHh
  have HOK:=ld (HPP.out s' c' hH.p)
  have hF0:=HF0.out
  have hout:∀ i,z≤i→i<z+4→¬ F0 i:=fun i h1 h2 h=>by
   rw [hF0] at h
   rcases h with h | h
   ·have:=hF.out i h;omega
   ·omega
  have hz3:=HZ3.out
  have HR4:=ld ((hH.chg.keep (i:=z+1) (by omega) (hout _ (by omega) (by omega))).trans HR3.out)
  have HH4:=ld ((hH.chg.keep (i:=z+3) (by omega) (hout _ (by omega) (by omega))).trans HH3.out)
  have HZ4:=ld (show z+5≤wc.heap.size by have:=hH.chg.size;omega)
  have HHA:=ld hH
  clear hF0 hout hz3 HR3 HH3 HE3 hH
  have hB:=HHA.out.nd.blk
  have hln:c'.ln=c'.log.length:=HHA.out.nd.rest.log.ents.2.1
  have HLL:=ld hln
  have q1:-4611686018427387904≤s'.snap:=by have:=HOK.out.1.sn;omega
  have q2:s'.snap≤4611686018427387904:=by have:=HOK.out.1.sn;omega
  have q3:c'.ln≤4611686018427387:=by have:=HOK.out.1.ll;omega
  have HEE:=ld (show ∀ W:World,W.heap[b]?=wc.heap[b]?→Calls Tryz.prog 57 #[.pointer (some ⟨b,0,none⟩)] W fun e w'=>e=.returned (.int .i64 (s'.snap+c'.ln))∧∃ n,w'=W.drewN n from fun W hW=>end_any b s' c' W (hW.trans HHA.out.nd.blk) q1 q2 q3)
  have W1x:IntKind.i64.wrap (s'.snap+(c'.ln:Int)+1)=s'.snap+(c'.ln:Int)+1:=IntWalk.i64_in _ (by have:=HOK.out.1.ll;have:=HOK.out.1.sn;omega)
  have HW1:=ld W1x
  have HB:=ld hB
  obtain ⟨y,hy⟩:∃ y,y=wc.heap.size:=⟨_,rfl⟩
  have HY:=ld hy
  clear hln hB hy W1x
  go_upto_region 8 with (fail)
  go_cut [8] (fun v wx=>v=.pointer (some ⟨y,0,none⟩)∧Hid (wx.heap[y]?=some (.cells #[.int .i64 s'.term,.int .i64 s'.vote,.bool (tv||decide (0<s'.from_)),.int .i64 (s'.snap+(c'.ln:Int)+1),.slice none 0 0,.slice c'.mA c'.mn c'.mc,.int .i64 s'.commit,.slice none 0 0,.int .i64 s'.role,.int .i64 s'.leader,.int .i64 s'.first,.int .i64 s'.last] 80 (0,0))∧Below y wc wx∧wx.heap.size=y+1))
  case first =>
   have hB:=HB.out
   have HTS:Hid (∀ W:World,W.heap[b]?=wc.heap[b]?→W.heap[z+3]?=wc.heap[z+3]?→W.heap[b]?=some (.cells (ncells s' c') 126 (0,0))∧W.heap[z+3]?=some (.cells #[.int .i64 s.term,.int .i64 s.vote] 45 (0,0))):=ld fun W h1 h2=>⟨h1.trans HB.out,h2.trans HH4.out⟩
   have hly:b<wc.heap.size:=block_lt hB
   have hlz3:z+3<wc.heap.size:=block_lt HH4.out
   have hbY:b≠y:=by have:=HY.out;omega
   have hzY:z+3≠y:=by have:=HY.out;omega
   clear hB
   obtain ⟨fl,hfl⟩:∃ fl:Bool,(tv||decide (0<s'.from_))=fl:=⟨_,rfl⟩
   have HFL:=ld hfl
   clear hfl
   refine wp_region_held_drew (S:=fun W:World=>W.heap[b]?=some (.cells (ncells s' c') 126 (0,0))∧W.heap[z+3]?=some (.cells #[.int .i64 s.term,.int .i64 s.vote] 45 (0,0))) (by kernel_rfl) (HTS.out _ rfl rfl) (fun hHeld=>?_)
   refine tkG291 0 (.pointer (some ⟨b,0,none⟩)) ?_
   refine tkG291 1 (.pointer (some ⟨b,0,none⟩)) ?_
   refine tkG291 2 (.pointer (some ⟨b,6,none⟩)) ?_
   refine tkG291 3 (.agg #[.int .i64 s'.term,.int .i64 s'.vote]) ?_
   refine tkG291 4 (.pointer (some ⟨b,0,none⟩)) ?_
   refine tkG291 5 (.pointer (some ⟨b,0,none⟩)) ?_
   refine tkG291 6 (.pointer (some ⟨b,6,none⟩)) ?_
   refine tkG291 7 (.agg #[.int .i64 s'.term,.int .i64 s'.vote]) ?_
   refine tkG291 8 (.agg #[.int .i64 s.term,.int .i64 s.vote]) ?_
   have HTV:=ld HOK.out.2
   rcases (show tv=false∨tv=true from by cases tv <;> simp) with htv | htv
   case' inl =>
    have HFL0:=ld (show decide (0<s'.from_)=fl from by have:=HFL.out;rw [htv] at this;simpa using this)
    have HF0:=ld htv
    clear htv
    refine tk 9 (.bool false) ?_ ?_
    ·intro w hSw;clear hSw;have e0:=HTV.out;rw [HF0.out] at e0;have e1:s'.term=s.term∧s'.vote=s.vote:=by simpa using e0
     have b1:(s'.term==s.term)=true:=by rw [beq_iff_eq];exact e1.1
     have b2:(s'.vote==s.vote)=true:=by rw [beq_iff_eq];exact e1.2
     clear e0 e1;go_simp
    refine tkG291 10 (.bool false) ?_
    refine tkG291 11 (.pointer (some ⟨b,0,none⟩)) ?_
    refine tkG291 12 (.pointer (some ⟨b,0,none⟩)) ?_
    refine tkG291 13 (.pointer (some ⟨b,26,none⟩)) ?_
    refine tkG291 14 (.int .i64 s'.from_) ?_
    refine tk 15 (.bool fl) ?_ ?_
    ·intro w hSw;obtain ⟨hS1,hS2⟩:=hSw;have n6:=nc6 hS1;have n7:=nc7 hS1;have n26:=nc26 hS1;have n11:=nc11 hS1;have n12:=nc12 hS1;have n13:=nc13 hS1;have n27:=nc27 hS1;have n28:=nc28 hS1;have n24:=nc24 hS1;have u0:w.cell? ⟨z+3,0,none⟩=some (.int .i64 s.term):=cell_block hS2 0 _ rfl;have u1:w.cell? ⟨z+3,1,none⟩=some (.int .i64 s.vote):=cell_block hS2 1 _ rfl;clear hS1 hS2;have hfl:=HFL0.out;go_simp;try exact hfl
    refine tk 16 (.bool fl) ?_ ?_
    ·intro w hSw;clear hSw;go_simp
   case' inr =>
    have HFT:=ld (show fl=true from by have:=HFL.out;rw [htv] at this;simpa using this.symm)
    have HF1:=ld htv
    clear htv
    refine tk 9 (.bool true) ?_ ?_
    ·intro w hSw;clear hSw;have e1:=HTV.out.1 HF1.out
     by_cases e2:s'.term=s.term
     ·have e3:¬ s'.vote=s.vote:=fun e=>e1 ⟨e2,e⟩
      have b1:(s'.term==s.term)=true:=by rw [beq_iff_eq];exact e2
      have b2:(s'.vote==s.vote)=false:=by rw [beq_eq_false_iff_ne];exact e3
      clear e1 e2 e3;go_simp
     ·have b1:(s'.term==s.term)=false:=by rw [beq_eq_false_iff_ne];exact e2
      clear e1 e2;go_simp
    refine tkG291 10 (.bool true) ?_
    refine tko 11 ?_
    refine tko 12 ?_
    refine tko 13 ?_
    refine tko 14 ?_
    refine tko 15 ?_
    refine tk 16 (.bool fl) ?_ ?_
    ·intro w hSw;clear hSw;rw [HFT.out];go_simp
   all_goals
    refine tkG291 17 (.pointer (some ⟨b,0,none⟩)) ?_
    refine tkG291 20 (.pointer (some ⟨b,0,none⟩)) ?_
    refine tkG291 21 (.pointer (some ⟨b,0,none⟩)) ?_
    refine tkG291 22 (.pointer (some ⟨b,24,none⟩)) ?_
    refine tkG291 23 (.slice c'.mA c'.mn c'.mc) ?_
    refine tkG291 24 (.pointer (some ⟨b,0,none⟩)) ?_
    refine tkG291 25 (.pointer (some ⟨b,0,none⟩)) ?_
    refine tkG291 26 (.pointer (some ⟨b,11,none⟩)) ?_
    refine tkG291 27 (.int .i64 s'.commit) ?_
    refine tkG291 28 (.pointer (some ⟨b,0,none⟩)) ?_
    refine tkG291 29 (.pointer (some ⟨b,0,none⟩)) ?_
    refine tkG291 30 (.pointer (some ⟨b,12,none⟩)) ?_
    refine tkG291 31 (.int .i64 s'.role) ?_
    refine tkG291 32 (.pointer (some ⟨b,0,none⟩)) ?_
    refine tkG291 33 (.pointer (some ⟨b,0,none⟩)) ?_
    refine tkG291 34 (.pointer (some ⟨b,13,none⟩)) ?_
    refine tkG291 35 (.int .i64 s'.leader) ?_
    refine tkG291 36 (.pointer (some ⟨b,0,none⟩)) ?_
    refine tkG291 37 (.pointer (some ⟨b,0,none⟩)) ?_
    refine tkG291 38 (.pointer (some ⟨b,27,none⟩)) ?_
    refine tkG291 39 (.int .i64 s'.first) ?_
    refine tkG291 40 (.pointer (some ⟨b,0,none⟩)) ?_
    refine tkG291 41 (.pointer (some ⟨b,0,none⟩)) ?_
    refine tkG291 42 (.pointer (some ⟨b,28,none⟩)) ?_
    refine tkG291 43 (.int .i64 s'.last) ?_
    refine wpAnyH_ready (rs:=[18,45]) (by kernel_rfl) (by simp) ?_
    refine AllReadyH.cons rfl (fun K hK=>?_) (AllReadyH.cons rfl (fun K hK=>?_) AllReadyH.nil)
    ·
     go_simp
     refine (HEE.out (wc.drew) rfl).mono ?_
     rintro e w6 ⟨rfl,nq6,rfl⟩
     go_wp2_with fail
     refine hks hK ?_ fun hHeld=>?_
     ·exact HTS.out _ rfl rfl
     clear hK K
     refine tk 19 (.int .i64 (s'.snap+(c'.ln:Int)+1)) ?_ ?_
     ·intro w hSw;clear hSw;have hw:=HW1.out;go_simp;try exact hw
     refine tk 44 (.agg #[.int .i64 s'.term,.int .i64 s'.vote,.bool fl,.int .i64 (s'.snap+(c'.ln:Int)+1),.slice none 0 0,.slice c'.mA c'.mn c'.mc,.int .i64 s'.commit,.slice none 0 0,.int .i64 s'.role,.int .i64 s'.leader,.int .i64 s'.first,.int .i64 s'.last]) ?_ ?_
     ·intro w hSw;clear hSw;go_simp
     refine rdy 45 fun K hK=>?_
     go_simp
     refine hks hK ?_ fun hHeld=>?_
     ·exact HTS.out _ (Below.heap_alloc _ _ _ hly) (Below.heap_alloc _ _ _ hlz3)
     clear hK K
     have hW7:((wc.drewN (1+nq6)).alloc (.cells #[.int .i64 0,.int .i64 0,.bool false,.int .i64 0,.slice none 0 0,.slice none 0 0,.int .i64 0,.slice none 0 0,.int .i64 0,.int .i64 0,.int .i64 0,.int .i64 0] 80)).heap[(wc.drewN (1+nq6)).heap.size]?=_:=World.alloc_at ((wc.drewN (1+nq6))) (.cells #[.int .i64 0,.int .i64 0,.bool false,.int .i64 0,.slice none 0 0,.slice none 0 0,.int .i64 0,.slice none 0 0,.int .i64 0,.int .i64 0,.int .i64 0,.int .i64 0] 80)
     have hb7:Below y wc ((wc.drewN (1+nq6)).alloc (.cells #[.int .i64 0,.int .i64 0,.bool false,.int .i64 0,.slice none 0 0,.slice none 0 0,.int .i64 0,.slice none 0 0,.int .i64 0,.int .i64 0,.int .i64 0,.int .i64 0] 80)):=HY.out▸((show Below wc.heap.size wc ((wc.drewN (1+nq6))) from ⟨rfl,rfl,rfl,Nat.le_refl _,fun _ _=>rfl⟩).alloc (Nat.le_refl _) _)
     have hs7:((wc.drewN (1+nq6)).alloc (.cells #[.int .i64 0,.int .i64 0,.bool false,.int .i64 0,.slice none 0 0,.slice none 0 0,.int .i64 0,.slice none 0 0,.int .i64 0,.int .i64 0,.int .i64 0,.int .i64 0] 80)).heap.size=y+1:=by have e:=World.alloc_size ((wc.drewN (1+nq6))) (.cells #[.int .i64 0,.int .i64 0,.bool false,.int .i64 0,.slice none 0 0,.slice none 0 0,.int .i64 0,.slice none 0 0,.int .i64 0,.int .i64 0,.int .i64 0,.int .i64 0] 80);rw [show ((wc.drewN (1+nq6))).heap.size=y from HY.out.symm] at e;exact e
     rw [show (wc.drewN (1+nq6)).heap.size=y from HY.out.symm] at hW7
     try rw [show wc.heap.size=y from HY.out.symm]
     try rw [show (wc.drew).heap.size=y from HY.out.symm]
     generalize (wc.drewN (1+nq6)).alloc (.cells #[.int .i64 0,.int .i64 0,.bool false,.int .i64 0,.slice none 0 0,.slice none 0 0,.int .i64 0,.slice none 0 0,.int .i64 0,.int .i64 0,.int .i64 0,.int .i64 0] 80)=W7 at hHeld hW7 hb7 hs7 ⊢
     have hW7f:=hW7
     have hb7f:=hb7
     have hs7f:=hs7
     clear hW7 hb7 hs7
     obtain ⟨y0,y1,y2,y3,y4,y5,y6,y7,y8,y9,y10,y11⟩:=cells12 hW7f
     have hf7:=frozen_block hW7f
     have st:=store12 hW7f (.int .i64 s'.term) (.int .i64 s'.vote) (.bool fl) (.int .i64 (s'.snap+(c'.ln:Int)+1)) (.slice none 0 0) (.slice c'.mA c'.mn c'.mc) (.int .i64 s'.commit) (.slice none 0 0) (.int .i64 s'.role) (.int .i64 s'.leader) (.int .i64 s'.first) (.int .i64 s'.last)
     refine rdy 46 fun K hK=>?_
     go_simp
     refine hks hK ?_ fun hHeld=>?_
     ·exact ⟨(st.2.1 b hbY).trans hHeld.1,(st.2.1 (z+3) hzY).trans hHeld.2⟩
     clear hK K
     refine don ?_
     go_wp2_with fail
     go_meet
     exact ⟨rfl,ld ⟨by rw [HFL.out];exact st.1,st.2.2.2 _ hb7f,st.2.2.1.trans hs7f⟩⟩
    ·
     go_simp
     refine hks hK ?_ fun hHeld=>?_
     ·exact HTS.out _ (Below.heap_alloc _ _ _ hly) (Below.heap_alloc _ _ _ hlz3)
     clear hK K
     have hW7:((wc.alloc (.cells #[.int .i64 0,.int .i64 0,.bool false,.int .i64 0,.slice none 0 0,.slice none 0 0,.int .i64 0,.slice none 0 0,.int .i64 0,.int .i64 0,.int .i64 0,.int .i64 0] 80)).drew).heap[(wc.drew).heap.size]?=_:=World.alloc_at (wc.drew) (.cells #[.int .i64 0,.int .i64 0,.bool false,.int .i64 0,.slice none 0 0,.slice none 0 0,.int .i64 0,.slice none 0 0,.int .i64 0,.int .i64 0,.int .i64 0,.int .i64 0] 80)
     have hb7:Below y wc ((wc.alloc (.cells #[.int .i64 0,.int .i64 0,.bool false,.int .i64 0,.slice none 0 0,.slice none 0 0,.int .i64 0,.slice none 0 0,.int .i64 0,.int .i64 0,.int .i64 0,.int .i64 0] 80)).drew):=HY.out▸((show Below wc.heap.size wc (wc.drew) from ⟨rfl,rfl,rfl,Nat.le_refl _,fun _ _=>rfl⟩).alloc (Nat.le_refl _) _)
     have hs7:((wc.alloc (.cells #[.int .i64 0,.int .i64 0,.bool false,.int .i64 0,.slice none 0 0,.slice none 0 0,.int .i64 0,.slice none 0 0,.int .i64 0,.int .i64 0,.int .i64 0,.int .i64 0] 80)).drew).heap.size=y+1:=by have e:=World.alloc_size (wc.drew) (.cells #[.int .i64 0,.int .i64 0,.bool false,.int .i64 0,.slice none 0 0,.slice none 0 0,.int .i64 0,.slice none 0 0,.int .i64 0,.int .i64 0,.int .i64 0,.int .i64 0] 80);rw [show (wc.drew).heap.size=y from HY.out.symm] at e;exact e
     rw [show (wc.drew).heap.size=y from HY.out.symm] at hW7
     try rw [show wc.heap.size=y from HY.out.symm]
     try rw [show (wc.drew).heap.size=y from HY.out.symm]
     generalize (wc.alloc (.cells #[.int .i64 0,.int .i64 0,.bool false,.int .i64 0,.slice none 0 0,.slice none 0 0,.int .i64 0,.slice none 0 0,.int .i64 0,.int .i64 0,.int .i64 0,.int .i64 0] 80)).drew=W7 at hHeld hW7 hb7 hs7 ⊢
     refine rdy 18 fun K hK=>?_
     go_simp
     refine (HEE.out W7 (hb7.block b (by have:=HY.out;omega))).mono ?_
     rintro e w6 ⟨rfl,nq6,rfl⟩
     go_wp2_with fail
     refine hks hK ?_ fun hHeld=>?_
     ·exact hHeld
     clear hK K
     have hW7':(W7.drewN nq6).heap[y]?=_:=hW7
     have hb7':Below y wc (W7.drewN nq6):=hb7.trans ⟨rfl,rfl,rfl,Nat.le_refl _,fun _ _=>rfl⟩
     have hs7':(W7.drewN nq6).heap.size=y+1:=hs7
     clear hW7 hb7 hs7
     generalize W7.drewN nq6=W8 at hHeld hW7' hb7' hs7' ⊢
     refine tk 19 (.int .i64 (s'.snap+(c'.ln:Int)+1)) ?_ ?_
     ·intro w hSw;clear hSw;have hw:=HW1.out;go_simp;try exact hw
     refine tk 44 (.agg #[.int .i64 s'.term,.int .i64 s'.vote,.bool fl,.int .i64 (s'.snap+(c'.ln:Int)+1),.slice none 0 0,.slice c'.mA c'.mn c'.mc,.int .i64 s'.commit,.slice none 0 0,.int .i64 s'.role,.int .i64 s'.leader,.int .i64 s'.first,.int .i64 s'.last]) ?_ ?_
     ·intro w hSw;clear hSw;go_simp
     refine rdy 46 fun K hK=>?_
     have hW7f:=hW7'
     have hb7f:=hb7'
     have hs7f:=hs7'
     clear hW7' hb7' hs7'
     obtain ⟨y0,y1,y2,y3,y4,y5,y6,y7,y8,y9,y10,y11⟩:=cells12 hW7f
     have hf7:=frozen_block hW7f
     have st:=store12 hW7f (.int .i64 s'.term) (.int .i64 s'.vote) (.bool fl) (.int .i64 (s'.snap+(c'.ln:Int)+1)) (.slice none 0 0) (.slice c'.mA c'.mn c'.mc) (.int .i64 s'.commit) (.slice none 0 0) (.int .i64 s'.role) (.int .i64 s'.leader) (.int .i64 s'.first) (.int .i64 s'.last)
     go_simp
     refine hks hK ?_ fun hHeld=>?_
     ·exact ⟨(st.2.1 b hbY).trans hHeld.1,(st.2.1 (z+3) hzY).trans hHeld.2⟩
     clear hK K
     refine don ?_
     go_wp2_with fail
     go_meet
     exact ⟨rfl,ld ⟨by rw [HFL.out];exact st.1,st.2.2.2 _ hb7f,st.2.2.1.trans hs7f⟩⟩
  case rest =>
   obtain ⟨rfl,hy8⟩:=hcut
   obtain ⟨hy8,hb8,hs8⟩:=hy8.out
   have HB8:=ld hb8
   have HND:=ld (HHA.out.nd.below (HY.out▸hb8))
   have HCW:Hid (Chg F w wc):=ld ((HC3.out.trans2 HHA.out.chg (fun i hi=>by
    have hF0:=HF0.out
    have:=HZ.out
    rw [hF0] at hi
    rcases hi with h | h
    ·exact .inl h
    ·right;omega)).below (HY.out▸hb8))
   have hz4:=HZ4.out
   have hzy:z+5≤y:=by have:=HY.out;omega
   have hzw:w.heap.size=z:=HZ.out.symm
   have HFF:Hid ((∀ i,F i→F' i)∧(∀ i,F' i→F i∨w.heap.size≤i)∧(∀ i,F' i→i<y)∧¬ F' (z+1)∧(∀ i,G' i→w.heap.size≤i∧i<y∧i≠z+1)):=ld ⟨fun i hi=>HHA.out.sub i (by rw [HF0.out];exact .inl hi),fun i hi=>by
    have:=HZ3.out
    rcases HHA.out.sub' i hi with h | h
    ·rw [HF0.out] at h
     rcases h with h | h
     ·exact .inl h
     ·right;omega
    ·right;omega,fun i hi=>by rw [HY.out];exact HHA.out.nd.rest.bdF i hi,fun hi=>by
    have:=HZ3.out
    rcases HHA.out.sub' _ hi with h | h
    ·rw [HF0.out] at h
     rcases h with h | h
     ·have:=hF.out _ h;omega
     ·omega
    ·omega,fun i hi=>by
    have:=HZ3.out
    have h1:=HHA.out.subG i hi
    have h2:=HHA.out.nd.rest.bdG i hi
    have h3:=HY.out
    exact ⟨by omega,by omega,by omega⟩⟩
   have HR8:Hid (wc.heap[z+1]?=some (.cells #[.int .i64 0,.int .i64 0,.bool false,.int .i64 0,.slice none 0 0,.slice none 0 0,.int .i64 0,.slice none 0 0,.int .i64 0,.int .i64 0,.int .i64 0,.int .i64 0] 80 (0,0))):=ld ((hb8.block (z+1) (by omega)).trans HR4.out)
   have HM8:Hid (MidG w wc F F' G' b y (z+1) s' c' #[.int .i64 s'.term,.int .i64 s'.vote,.bool (tv||decide (0<s'.from_)),.int .i64 (s'.snap+(c'.ln:Int)+1),.slice none 0 0,.slice c'.mA c'.mn c'.mc,.int .i64 s'.commit,.slice none 0 0,.int .i64 s'.role,.int .i64 s'.leader,.int .i64 s'.first,.int .i64 s'.last] #[.int .i64 0,.int .i64 0,.bool false,.int .i64 0,.slice none 0 0,.slice none 0 0,.int .i64 0,.slice none 0 0,.int .i64 0,.int .i64 0,.int .i64 0,.int .i64 0] none 0 0 [] (fun _=>False)∨0<s'.from_):=ld (by
    by_cases hfr:0<s'.from_
    ·exact .inr hfr
    ·exact .inl ⟨hy8,HR8.out,HND.out,HCW.out,EntsS.nil,⟨rfl,Nat.le_refl _⟩,by rw [if_neg hfr];rfl,fun i hi=>hi.elim,⟨fun h=>by have:=HFF.out.2.2.1 y h;omega,fun h=>by have:=(HFF.out.2.2.2.2 y h).2.1;omega,by omega,by omega⟩,⟨HFF.out.2.2.2.1,fun h=>(HFF.out.2.2.2.2 _ h).2.2 rfl,by omega⟩,HFF.out.1,HFF.out.2.1,fun i hi=>(HFF.out.2.2.2.2 i hi).1⟩)
   have c26:=nc26 HND.out.blk
   go_upto_if 106 with (fail)
   go_cut [] (fun wx=>Hid (∃ eA en ec qs S,MidG w wx F F' G' b y (z+1) s' c' #[.int .i64 s'.term,.int .i64 s'.vote,.bool (tv||decide (0<s'.from_)),.int .i64 (if 0<s'.from_ then s'.from_ else s'.snap+(c'.ln:Int)+1),.slice eA en ec,.slice c'.mA c'.mn c'.mc,.int .i64 s'.commit,.slice none 0 0,.int .i64 s'.role,.int .i64 s'.leader,.int .i64 s'.first,.int .i64 s'.last] #[.int .i64 0,.int .i64 0,.bool false,.int .i64 0,.slice none 0 0,.slice none 0 0,.int .i64 0,.slice none 0 0,.int .i64 0,.int .i64 0,.int .i64 0,.int .i64 0] eA en ec qs S))
   case first =>
    by_cases hfr:0<s'.from_
    ·obtain ⟨k,hk⟩:∃ k:Nat,s'.from_=s'.snap+1+k:=⟨(s'.from_-s'.snap-1).toNat,by have:=HOK.out.1.fr hfr;omega⟩
     have hE:=HND.out.rest.log.ents
     have hkn:k≤c'.ln:=by have:=HOK.out.1.fr hfr;have:=HLL.out;omega
     have hcut:=Ents.cut (k:=k) hE.1 hkn hE.2.1 hE.2.2
     have hkc:k≤c'.lc:=Nat.le_trans hkn hE.2.2
     have hcl:(c'.log.drop k).length≤100000:=by rw [List.length_drop];have:=HOK.out.1.ll;omega
     have hcn:c'.ln-k=(c'.log.drop k).length:=by rw [List.length_drop];have:=HLL.out;omega
     have hfd:decide (0<s'.from_)=true:=decide_eq_true hfr
     obtain ⟨y0,y1,y2,y3,y4,y5,y6,y7,y8,y9,y10,y11⟩:=cells12 hy8
     have hf8:=frozen_block hy8
     have hly8:=block_lt hy8
     have HKQ:=ld hk
     clear hE hk
     go_upto_region 11 with (fail)
     have hk:=HKQ.out
     have hY9:=block_setCell (o:=3) hy8 (.int .i64 s'.from_)
     have hne9:∀ i,i≠y→(wc.setCell ⟨y,3,none⟩ (.int .i64 s'.from_)).heap[i]?=wc.heap[i]?:=fun i hi=>Below.heap_setCell _ _ _ _ hi
     have hs9:(wc.setCell ⟨y,3,none⟩ (.int .i64 s'.from_)).heap.size=wc.heap.size:=by simp only [World.setCell,Array.size_modify]
     have hN9:=HND.out.keep (w':=wc.setCell ⟨y,3,none⟩ (.int .i64 s'.from_)) (Nat.le_of_eq hs9.symm) fun i hi _=>hne9 i fun e=>by subst e;rcases hi with hi | hi;exact absurd (HFF.out.2.2.1 _ hi) (Nat.lt_irrefl _);exact absurd (HFF.out.2.2.2.2 _ hi).2.1 (Nat.lt_irrefl _)
     have hC9:=HCW.out.setCell (p:=⟨y,3,none⟩) (.inr (show w.heap.size≤y by omega)) (.int .i64 s'.from_)
     have hR9:=(hne9 (z+1) (by omega)).trans HR8.out
     have hE9:=(Ents.cut (k:=k) hN9.rest.log.ents.1 hkn hN9.rest.log.ents.2.1 hN9.rest.log.ents.2.2)
     clear y0 y1 y2 y3 y4 y5 y6 y7 y8 y9 y10 y11 hf8 c26 hcut hne9 hs9 hly8
     generalize wc.setCell ⟨y,3,none⟩ (.int .i64 s'.from_)=W9 at hY9 hN9 hC9 hR9 hE9 ⊢
     generalize hA9:(if c'.lc=k then c'.lA else Option.map (fun x=>x.add (k*3)) c'.lA)=A9 at hE9
     have HCO:=ld (copied_any A9 (c'.ln-k) (c'.lc-k) _ W9.drew (show Ents W9.drew W9.drew.heap.size A9 _ from ⟨hE9.row,hE9.each⟩) hcn hcl)
     have HA9:=ld hA9
     have HN9:=ld hN9
     have HC9:=ld hC9
     have HR9:=ld hR9
     have HY9:=ld hY9
     have HKK:=ld (And.intro hk (And.intro hkn hkc))
     have hbl9:b<W9.drew.heap.size:=hN9.lt
     have hly:y<W9.heap.size:=block_lt hY9
     have hbY:b≠y:=fun e=>by have:=HFF.out.2.2.1 b HND.out.hb;omega
     have BD9:Hid (W9.drew.heap[b]?=some (.cells (ncells s' c') 126 (0,0))):=ld hN9.blk
     have hw1:IntKind.i64.wrap (s'.from_-s'.snap)=s'.from_-s'.snap:=IntWalk.i64_in _ (by have:=HOK.out.1.fr hfr;have:=HOK.out.1.sn;have:=HOK.out.1.ll;omega)
     have hw2:IntKind.i64.wrap (s'.from_-s'.snap-1)=(k:Int):=by rw [IntWalk.i64_in _ (by have:=HOK.out.1.fr hfr;have:=HOK.out.1.sn;have:=HOK.out.1.ll;omega)];omega
     have HW12:=ld (And.intro hw1 hw2)
     have HPOS:=ld hfr
     clear hE9 hA9 hN9 hC9 hR9 hY9 hcn hcl hw1 hw2 hfr hfd hk
     refine wp_region_held_drew (S:=fun W:World=>W.heap[b]?=some (.cells (ncells s' c') 126 (0,0))) (by kernel_rfl) BD9.out (fun hHeld=>?_)
     refine tkG292 0 (.pointer (some ⟨b,0,none⟩)) ?_
     refine tkG292 1 (.pointer (some ⟨b,0,none⟩)) ?_
     refine tkG292 2 (.pointer (some ⟨b,8,none⟩)) ?_
     refine tkG292 3 (.slice c'.lA c'.ln c'.lc) ?_
     refine tkG292 4 (.pointer (some ⟨b,0,none⟩)) ?_
     refine tkG292 5 (.pointer (some ⟨b,0,none⟩)) ?_
     refine tkG292 6 (.pointer (some ⟨b,26,none⟩)) ?_
     refine tkG292 7 (.int .i64 s'.from_) ?_
     refine tkG292 8 (.pointer (some ⟨b,0,none⟩)) ?_
     refine tkG292 9 (.pointer (some ⟨b,0,none⟩)) ?_
     refine tkG292 10 (.pointer (some ⟨b,9,none⟩)) ?_
     refine tkG292 11 (.int .i64 s'.snap) ?_
     refine tk 12 (.int .i64 (s'.from_-s'.snap)) ?_ ?_
     ·intro w hSw;clear hSw;have hw:=HW12.out.1;go_simp;try exact hw
     refine tk 13 (.int .i64 (k:Int)) ?_ ?_
     ·intro w hSw;clear hSw;have hw:=HW12.out.2;go_simp;try exact hw
     refine tk 14 (.slice A9 (c'.ln-k) (c'.lc-k)) ?_ ?_
     ·intro w hSw;clear hSw;have h1:k≤c'.ln:=HKK.out.2.1;have h2:k≤c'.lc:=HKK.out.2.2;have h3:=HA9.out;go_simp;try exact congrArg (fun a=>Result.ok (Next.value (Value.slice a (c'.ln-k) (c'.lc-k))) w) h3
     refine rdy 15 fun K hK=>?_
     go_simp
     refine HCO.out.mono ?_
     rintro e w10 ⟨v10,qs10,rfl,hO10,hq10,hb10⟩
     obtain ⟨A10,k10,rfl⟩:=hO10.own.form
     have hY10:=(hb10.block y hly).trans HY9.out
     have yf:=frozen_block hY10
     have y4:=cell_block hY10 4 _ rfl
     have hly10:=block_lt hY10
     go_wp2_with fail
     refine hks hK ?_ fun hHeld=>?_
     ·exact (hb10.block b hbl9).trans BD9.out
     clear hK K
     refine tkG292 16 (.pointer (some ⟨y,4,none⟩)) ?_
     refine rdy 17 fun K hK=>?_
     go_simp
     refine hks hK ?_ fun hHeld=>?_
     ·exact (Below.heap_setCell _ _ _ _ hbY).trans hHeld
     clear hK K
     refine don ?_
     have hb10':Below W9.heap.size W9 w10:=⟨hb10.os,hb10.tape,hb10.output,hb10.size,hb10.block⟩
     have hot:∀ i,i≠y→(w10.setCell ⟨y,4,none⟩ (.slice A10 qs10.length k10)).heap[i]?=w10.heap[i]?:=fun i hi=>Below.heap_setCell _ _ _ _ hi
     have hs11:(w10.setCell ⟨y,4,none⟩ (.slice A10 qs10.length k10)).heap.size=w10.heap.size:=by simp only [World.setCell,Array.size_modify]
     have HYt:=block_setCell (o:=4) hY10 (.slice A10 qs10.length k10)
     have HNt:=(HN9.out.below hb10').keep (w':=w10.setCell ⟨y,4,none⟩ (.slice A10 qs10.length k10)) (by rw [hs11];exact Nat.le_refl _) (fun i hi _=>hot i fun e=>by subst e;rcases hi with hi | hi;exact absurd (HFF.out.2.2.1 _ hi) (Nat.lt_irrefl _);exact absurd (HFF.out.2.2.2.2 _ hi).2.1 (Nat.lt_irrefl _))
     have HCt:=(HC9.out.below hb10').setCell (p:=⟨y,4,none⟩) (.inr (show w.heap.size≤y by omega)) (.slice A10 qs10.length k10)
     have HRt:=(hot (z+1) (by omega)).trans ((hb10'.block (z+1) (block_lt HR9.out)).trans HR9.out)
     obtain ⟨hEs,hEn,hEk⟩:=hO10.entsS
     have hyl:y<W9.heap.size:=hly
     have HEt:=hEs.keep (w':=w10.setCell ⟨y,4,none⟩ (.slice A10 qs10.length k10)) (fun i hi=>hot i (by have:W9.heap.size≤i:=hi.1;omega))
     clear hHeld
     go_wp2_with (fail)
     go_meet
     refine ld ⟨A10,qs10.length,k10,qs10,_,⟨?_,HRt,HNt,HCt,HEt,⟨rfl,by simpa using hEk⟩,?_,fun i hi=>?_,⟨fun h=>by have:=HFF.out.2.2.1 y h;omega,fun h=>by have:=(HFF.out.2.2.2.2 y h).2.1;omega,by omega,by omega⟩,⟨HFF.out.2.2.2.1,fun h=>(HFF.out.2.2.2.2 _ h).2.2 rfl,by omega⟩,HFF.out.1,HFF.out.2.1,fun i hi=>(HFF.out.2.2.2.2 i hi).1⟩⟩
     ·rw [if_pos HPOS.out];exact HYt
     ·rw [hq10,if_pos HPOS.out,List.map_drop,HKK.out.1]
      congr 1;omega
     ·have h1:W9.heap.size≤i:=hi.1
      exact ⟨by omega,by rw [hs11];exact hi.2,fun h=>by have:=HFF.out.2.2.1 i h;omega,by omega,by omega⟩
    ·have hfd:decide (0<s'.from_)=false:=decide_eq_false hfr
     have HM0:=ld (HM8.out.resolve_right hfr)
     have HFN:=ld hfr
     clear hfr HM8 hy8 hb8 hs8
     go_wp2_with (fail)
     go_meet
     refine ld ⟨none,0,0,[],fun _=>False,?_⟩
     have e:(#[.int .i64 s'.term,.int .i64 s'.vote,.bool (tv||decide (0<s'.from_)),.int .i64 (if 0<s'.from_ then s'.from_ else s'.snap+(c'.ln:Int)+1),.slice none 0 0,.slice c'.mA c'.mn c'.mc,.int .i64 s'.commit,.slice none 0 0,.int .i64 s'.role,.int .i64 s'.leader,.int .i64 s'.first,.int .i64 s'.last]:Array Value)=#[.int .i64 s'.term,.int .i64 s'.vote,.bool (tv||decide (0<s'.from_)),.int .i64 (s'.snap+(c'.ln:Int)+1),.slice none 0 0,.slice c'.mA c'.mn c'.mc,.int .i64 s'.commit,.slice none 0 0,.int .i64 s'.role,.int .i64 s'.leader,.int .i64 s'.first,.int .i64 s'.last]:=by rw [if_neg (by have:=HFN.out;omega)]
     rw [e]
     exact HM0.out
   case rest =>
    obtain ⟨eA,en,ec,qs,S,hM⟩:=hcut.out
    clear hcut HM8 hy8 hb8 hs8 c26 HND HCW HR8
    have HM:=ld hM
    clear hM
    have HPE:=ld HM.out.nd.rest.peers
    have hpl:=HOK.out.1.pl
    go_wp2_with (fail)
    refine (others_new b s' c' wc HM.out.nd.blk HM.out.nd.rest.peers hpl).mono ?_
    rintro e w12 ⟨A12,k12x,rfl,hO12,hb12⟩
    have HSZ:Hid (w.heap.size≤wc.heap.size∧wc.heap.size≤w12.heap.size∧(∀ i,S i→i<wc.heap.size)∧(∀ i,F' i∨G' i→i<wc.heap.size)∧y<wc.heap.size∧z+1<wc.heap.size):=ld ⟨HM.out.chg.size,hb12.size,fun i hi=>(HM.out.fresh i hi).2.1,fun i hi=>hi.elim (HM.out.nd.rest.bdF i) (HM.out.nd.rest.bdG i),block_lt HM.out.yb,block_lt HM.out.rb⟩
    replace HM:=ld (HM.out.below hb12)
    obtain ⟨os,hos⟩:∃ os,os=others s'.id c'.peers:=⟨_,rfl⟩
    rw [←hos] at hO12 ⊢
    have hol:os.length≤7:=by rw [hos];unfold others;exact Nat.le_trans (List.length_filter_le _ _) hpl
    have HOS:Hid (os=others s'.id c'.peers∧∀ q∈os,okI q):=ld ⟨hos,fun q hq=>HOK.out.1.pk q (by rw [hos] at hq;unfold others at hq;exact (List.mem_filter.1 hq).1)⟩
    have HO12:=ld hO12
    clear hos hO12 hb12
    go_wp2_with (fail)
    go_loopw [10,132] (fun _ i wr=>∃ (k:Nat) (sA:Option Addr) (sn sc:Nat),i=.int .i64 k∧k≤os.length∧Hid (MidG w wr F F' G' b y (z+1) s' c' #[.int .i64 s'.term,.int .i64 s'.vote,.bool (tv||decide (0<s'.from_)),.int .i64 (if 0<s'.from_ then s'.from_ else s'.snap+(c'.ln:Int)+1),.slice eA en ec,.slice c'.mA c'.mn c'.mc,.int .i64 s'.commit,.slice sA sn sc,.int .i64 s'.role,.int .i64 s'.leader,.int .i64 s'.first,.int .i64 s'.last] #[.int .i64 0,.int .i64 0,.bool false,.int .i64 0,.slice none 0 0,.slice none 0 0,.int .i64 0,.slice none 0 0,.int .i64 0,.int .i64 0,.int .i64 0,.int .i64 0] eA en ec qs S∧Own encI 1 3 wr w12.heap.size (.slice sA sn sc) ((os.take k).filter fun q=>decide (q∈c'.sn.map (·.1)))∧(∀ i,wc.heap.size≤i∧i<w12.heap.size→wr.heap[i]?=w12.heap[i]?)∧w12.heap.size≤wr.heap.size)) (fun _ i _=>os.length-(intOf i).toNat)
    case atStart=>exact ⟨0,none,0,0,rfl,Nat.zero_le _,ld ⟨HM.out,Own.nil,fun _ _=>rfl,Nat.le_refl _⟩⟩
    case round =>
     obtain ⟨k,sA,sn,sc,rfl,hk,HI⟩:=hrel
     by_cases hlt:k<os.length
     ·have hg:=List.getElem?_eq_getElem hlt
      have hrow:RowS encI 1 wr (fun i=>wc.heap.size≤i∧i<w12.heap.size) A12 os:=HO12.out.keep fun i hi=>HI.out.2.2.1 i hi
      obtain ⟨ba,o,hA,_,c0⟩:=ints_at (hrow.row (B:=wr.heap.size) fun i hi=>by have:=HI.out.2.2.2;omega) hg
      have hqo:=HOS.out.2 _ (List.getElem_mem hlt)
      have HTK:Hid ((os.take (k+1)).filter (fun q=>decide (q∈c'.sn.map (·.1)))=(os.take k).filter (fun q=>decide (q∈c'.sn.map (·.1)))++[os[k]].filter (fun q=>decide (q∈c'.sn.map (·.1)))):=ld (by rw [List.take_add_one,hg,List.filter_append];rfl)
      have HA:=ld hA
      have hA':=hA
      subst hA'
      clear hg hrow hA
      generalize os[k]=q at c0 hqo HTK
      have c25:=nc25 HI.out.1.nd.blk
      have hlook:=sn_look HI.out.1.nd.rest.sn q hqo
      have HQO:=ld hqo
      clear hqo
      by_cases hm:q∈c'.sn.map (·.1)
      ·rw [decide_eq_true hm] at hlook
       replace HTK:=ld (show (os.take (k+1)).filter (fun q=>decide (q∈c'.sn.map (·.1)))=(os.take k).filter (fun q=>decide (q∈c'.sn.map (·.1)))++[q] by rw [HTK.out];simp [hm])
       clear hm
       obtain ⟨y0,y1,y2,y3,y4,y5,y6,y7,y8,y9,y10,y11⟩:=cells12 HI.out.1.yb
       have hfy:=frozen_block HI.out.1.yb
       clear y0 y1 y2 y3 y4 y5 y6 y8 y9 y10 y11
       have hown:=HI.out.2.1
       have hcap:=Own.cap hown
       have hfl:((os.take k).filter (fun q=>decide (q∈c'.sn.map (·.1)))).length≤7:=Nat.le_trans (List.length_filter_le _ _) (by rw [List.length_take];omega)
       generalize hxs:(os.take k).filter (fun q=>decide (q∈c'.sn.map (·.1)))=xs at hown hcap hfl
       have HXS:=ld hxs
       have HOW:=ld hown
       have HYN:Hid (some y≠(Value.slice sA sn sc).ownBlock):=ld fun e=>by
        have:=(hown.lt y e.symm).1
        have:=HSZ.out
        omega
       have hsz:=HI.out.2.2.2
       have hly:=block_lt HI.out.1.yb
       clear hxs hown hcap
       go_wp2_with (at_builtin;refine wp_app _ encI 1 rfl _ _ 25 rfl w12.heap.size 3 8 Tryz.underlying25 info3 (by omega) len_I one_I (.slice sA sn sc) xs rfl (HOW.out.alloc _) _ _ 1 1 [q] rfl rfl (row_one_I wr q) (by simp;omega) (by simp;omega) (by simp;omega) ?_;intro v3 w3 hown3 hg3 hat3 _;obtain ⟨A3,k3,rfl⟩:=hown3.form;have hyb3:=(hg3.block y (by rw [World.alloc_size];omega) HYN.out).trans (block_alloc HI.out.1.yb _);have y73:=cell_block hyb3 7 _ rfl;have hf3:=frozen_block hyb3;have hly3:=block_lt hyb3)
       go_roundw
       case rel =>
        have hown4:=hown3
        rw [show (xs++[q]).length=xs.length+1 by simp] at hown4
        have hrow3:∀ j,(Value.slice sA sn sc).ownBlock=some j→w12.heap.size≤j:=fun j hj=>(HOW.out.lt j hj).1
        have hM2:=((HI.out.1.below (below_one wr (.cells #[.int .i64 q] 3))).grown hg3 (fun j hj=>by
         have h1:=hrow3 j hj
         have h2:=HSZ.out
         exact ⟨by omega,fun h=>by have:=h2.2.2.2.1 j (.inl h);omega,fun h=>by have:=h2.2.2.2.1 j (.inr h);omega,fun h=>by have:=h2.2.2.1 j h;omega,by omega,by omega⟩)).sety 7 (.slice A3 (xs.length+1) k3)
        have ecs:(#[.int .i64 s'.term,.int .i64 s'.vote,.bool (tv||decide (0<s'.from_)),.int .i64 (if 0<s'.from_ then s'.from_ else s'.snap+(c'.ln:Int)+1),.slice eA en ec,.slice c'.mA c'.mn c'.mc,.int .i64 s'.commit,.slice sA sn sc,.int .i64 s'.role,.int .i64 s'.leader,.int .i64 s'.first,.int .i64 s'.last]:Array Value).setIfInBounds 7 (.slice A3 (xs.length+1) k3)=#[.int .i64 s'.term,.int .i64 s'.vote,.bool (tv||decide (0<s'.from_)),.int .i64 (if 0<s'.from_ then s'.from_ else s'.snap+(c'.ln:Int)+1),.slice eA en ec,.slice c'.mA c'.mn c'.mc,.int .i64 s'.commit,.slice A3 (xs.length+1) k3,.int .i64 s'.role,.int .i64 s'.leader,.int .i64 s'.first,.int .i64 s'.last]:=by simp
        rw [ecs] at hM2
        refine ⟨k+1,A3,xs.length+1,k3,by go_num,by omega,ld ⟨hM2,?_,fun i hi=>?_,?_⟩⟩
        ·rw [HTK.out,HXS.out]
         exact hown4.same fun j hj=>Below.heap_setCell _ _ _ _ fun e=>by
          have e':j=y:=e
          have:=(hown4.lt j hj).1
          have:=HSZ.out
          omega
        ·have h2:=HSZ.out
         refine (Below.heap_setCell _ _ _ _ (fun e=>by have e':i=y:=e;omega)).trans ((hg3.block i (by rw [World.alloc_size];omega) (fun e=>by have:=hrow3 i e.symm;omega)).trans ((Below.heap_alloc _ _ _ (by omega)).trans (HI.out.2.2.1 i hi)))
        ·have h1:=hg3.size
         rw [World.alloc_size] at h1
         simp only [World.setCell,Array.size_modify]
         omega
       case measure=>simp [intOf];omega
      ·rw [decide_eq_false hm] at hlook
       replace HTK:=ld (show (os.take (k+1)).filter (fun q=>decide (q∈c'.sn.map (·.1)))=(os.take k).filter (fun q=>decide (q∈c'.sn.map (·.1))) by rw [HTK.out];simp [hm])
       clear hm
       go_wp2
       go_roundw
       case rel=>exact ⟨k+1,sA,sn,sc,by go_num,by omega,ld ⟨HI.out.1,by rw [HTK.out];exact HI.out.2.1,HI.out.2.2.1,HI.out.2.2.2⟩⟩
       case measure=>simp [intOf];omega
     ·have hke:k=os.length:=by omega
      have HTK:Hid (snapsOf s' c'=(os.take k).filter (fun q=>decide (q∈c'.sn.map (·.1)))):=ld (by unfold snapsOf;rw [hke,List.take_length,HOS.out.1])
      clear hke
      have HM9:=ld HI.out.1
      have HOW:Hid (Own encI 1 3 wr w.heap.size (.slice sA sn sc) (snapsOf s' c')):=ld (by rw [HTK.out];exact HI.out.2.1.weaken (by have:=HSZ.out;omega))
      have HOL:Hid (∀ j,(Value.slice sA sn sc).ownBlock=some j→w12.heap.size≤j):=ld fun j hj=>(HI.out.2.1.lt j hj).1
      clear HI HTK
      have hB:=HM9.out.nd.blk
      have c24:=nc24 hB
      have hf:=frozen_block hB
      obtain ⟨y0,y1,y2,y3,y4,y5,y6,y7,y8,y9,y10,y11⟩:=cells12 HM9.out.yb
      obtain ⟨r0,r1,r2,r3,r4,r5,r6,r7,r8,r9,r10,r11⟩:=cells12 HM9.out.rb
      have fr:=frozen_block HM9.out.rb
      have l1:y<wr.heap.size:=block_lt HM9.out.yb
      have l2:z+1<wr.heap.size:=block_lt HM9.out.rb
      have l3:b<wr.heap.size:=block_lt hB
      clear hB
      obtain ⟨fv,hfv⟩:∃ fv,fv=(if 0<s'.from_ then s'.from_ else s'.snap+(c'.ln:Int)+1):=⟨_,rfl⟩
      rw [←hfv] at y3
      have HFV:=ld hfv
      clear hfv
      obtain ⟨wv,hwv⟩:∃ wv:Bool,wv=(tv||decide (0<s'.from_)):=⟨_,rfl⟩
      rw [←hwv] at y2
      have HWV:=ld hwv
      clear hwv
      go_wp2_with (fail)
      have hbz1:b≠z+1:=fun e=>HM9.out.nr.1 (e▸HM9.out.nd.hb)
      have st:=store12 (w:=wr.setCell ⟨b,24,none⟩ (.slice none 0 0)) (y:=z+1) ((Below.heap_setCell _ _ _ _ (fun e=>hbz1 e.symm)).trans HM9.out.rb) (.int .i64 s'.term) (.int .i64 s'.vote) (.bool wv) (.int .i64 fv) (.slice eA en ec) (.slice c'.mA c'.mn c'.mc) (.int .i64 s'.commit) (.slice sA sn sc) (.int .i64 s'.role) (.int .i64 s'.leader) (.int .i64 s'.first) (.int .i64 s'.last)
      have hbf:=(st.2.1 b hbz1).trans (block_setCell (o:=24) HM9.out.nd.blk (.slice none 0 0))
      have hof:∀ i,i≠b→i≠z+1→(((((((((((((wr.setCell ⟨b,24,none⟩ (.slice none 0 0)).setCell ⟨z+1,0,none⟩ (.int .i64 s'.term)).setCell ⟨z+1,1,none⟩ (.int .i64 s'.vote)).setCell ⟨z+1,2,none⟩ (.bool wv)).setCell ⟨z+1,3,none⟩ (.int .i64 fv)).setCell ⟨z+1,4,none⟩ (.slice eA en ec)).setCell ⟨z+1,5,none⟩ (.slice c'.mA c'.mn c'.mc)).setCell ⟨z+1,6,none⟩ (.int .i64 s'.commit)).setCell ⟨z+1,7,none⟩ (.slice sA sn sc)).setCell ⟨z+1,8,none⟩ (.int .i64 s'.role)).setCell ⟨z+1,9,none⟩ (.int .i64 s'.leader)).setCell ⟨z+1,10,none⟩ (.int .i64 s'.first)).setCell ⟨z+1,11,none⟩ (.int .i64 s'.last)).heap[i]?=wr.heap[i]?:=fun i h1 h2=>(st.2.1 i h2).trans (Below.heap_setCell _ _ _ _ h1)
      have hsf:(((((((((((((wr.setCell ⟨b,24,none⟩ (.slice none 0 0)).setCell ⟨z+1,0,none⟩ (.int .i64 s'.term)).setCell ⟨z+1,1,none⟩ (.int .i64 s'.vote)).setCell ⟨z+1,2,none⟩ (.bool wv)).setCell ⟨z+1,3,none⟩ (.int .i64 fv)).setCell ⟨z+1,4,none⟩ (.slice eA en ec)).setCell ⟨z+1,5,none⟩ (.slice c'.mA c'.mn c'.mc)).setCell ⟨z+1,6,none⟩ (.int .i64 s'.commit)).setCell ⟨z+1,7,none⟩ (.slice sA sn sc)).setCell ⟨z+1,8,none⟩ (.int .i64 s'.role)).setCell ⟨z+1,9,none⟩ (.int .i64 s'.leader)).setCell ⟨z+1,10,none⟩ (.int .i64 s'.first)).setCell ⟨z+1,11,none⟩ (.int .i64 s'.last)).heap.size=wr.heap.size:=st.2.2.1.trans (by simp only [World.setCell,Array.size_modify])
      have hcf:Chg F w (((((((((((((wr.setCell ⟨b,24,none⟩ (.slice none 0 0)).setCell ⟨z+1,0,none⟩ (.int .i64 s'.term)).setCell ⟨z+1,1,none⟩ (.int .i64 s'.vote)).setCell ⟨z+1,2,none⟩ (.bool wv)).setCell ⟨z+1,3,none⟩ (.int .i64 fv)).setCell ⟨z+1,4,none⟩ (.slice eA en ec)).setCell ⟨z+1,5,none⟩ (.slice c'.mA c'.mn c'.mc)).setCell ⟨z+1,6,none⟩ (.int .i64 s'.commit)).setCell ⟨z+1,7,none⟩ (.slice sA sn sc)).setCell ⟨z+1,8,none⟩ (.int .i64 s'.role)).setCell ⟨z+1,9,none⟩ (.int .i64 s'.leader)).setCell ⟨z+1,10,none⟩ (.int .i64 s'.first)).setCell ⟨z+1,11,none⟩ (.int .i64 s'.last)):=by
       have hz1:w.heap.size≤z+1:=by omega
       have h0:=HM9.out.chg.setCell (p:=⟨b,24,none⟩) (by rcases HM9.out.sub' b HM9.out.nd.hb with h | h;exact .inl h;exact .inr h) (.slice none 0 0)
       exact ((((((((((((h0.setCell (p:=⟨z+1,0,none⟩) (.inr hz1) (.int .i64 s'.term)).setCell (p:=⟨z+1,1,none⟩) (.inr hz1) (.int .i64 s'.vote)).setCell (p:=⟨z+1,2,none⟩) (.inr hz1) (.bool wv)).setCell (p:=⟨z+1,3,none⟩) (.inr hz1) (.int .i64 fv)).setCell (p:=⟨z+1,4,none⟩) (.inr hz1) (.slice eA en ec)).setCell (p:=⟨z+1,5,none⟩) (.inr hz1) (.slice c'.mA c'.mn c'.mc)).setCell (p:=⟨z+1,6,none⟩) (.inr hz1) (.int .i64 s'.commit)).setCell (p:=⟨z+1,7,none⟩) (.inr hz1) (.slice sA sn sc)).setCell (p:=⟨z+1,8,none⟩) (.inr hz1) (.int .i64 s'.role)).setCell (p:=⟨z+1,9,none⟩) (.inr hz1) (.int .i64 s'.leader)).setCell (p:=⟨z+1,10,none⟩) (.inr hz1) (.int .i64 s'.first)).setCell (p:=⟨z+1,11,none⟩) (.inr hz1) (.int .i64 s'.last))
      obtain ⟨s0,s1,s2,s3,s4,s5,s6,s7,s8,s9,s10,s11⟩:=cells12 st.1
      have hblk:=st.1
      clear st y0 y1 y2 y3 y4 y5 y6 y7 y8 y9 y10 y11 r0 r1 r2 r3 r4 r5 r6 r7 r8 r9 r10 r11 fr hf c24
      with_reducible generalize (((((((((((((wr.setCell ⟨b,24,none⟩ (.slice none 0 0)).setCell ⟨z+1,0,none⟩ (.int .i64 s'.term)).setCell ⟨z+1,1,none⟩ (.int .i64 s'.vote)).setCell ⟨z+1,2,none⟩ (.bool wv)).setCell ⟨z+1,3,none⟩ (.int .i64 fv)).setCell ⟨z+1,4,none⟩ (.slice eA en ec)).setCell ⟨z+1,5,none⟩ (.slice c'.mA c'.mn c'.mc)).setCell ⟨z+1,6,none⟩ (.int .i64 s'.commit)).setCell ⟨z+1,7,none⟩ (.slice sA sn sc)).setCell ⟨z+1,8,none⟩ (.int .i64 s'.role)).setCell ⟨z+1,9,none⟩ (.int .i64 s'.leader)).setCell ⟨z+1,10,none⟩ (.int .i64 s'.first)).setCell ⟨z+1,11,none⟩ (.int .i64 s'.last))=Wf at hbf hof hsf hcf s0 s1 s2 s3 s4 s5 s6 s7 s8 s9 s10 s11 hblk ⊢
      have l4:z+1<Wf.heap.size:=by rw [hsf];exact l2
      try simp only [Exit.inBlock,Exit.then]
      refine bodyPost_ret (v:=.tuple #[.agg #[.int .i64 s'.term,.int .i64 s'.vote,.bool wv,.int .i64 fv,.slice eA en ec,.slice c'.mA c'.mn c'.mc,.int .i64 s'.commit,.slice sA sn sc,.int .i64 s'.role,.int .i64 s'.leader,.int .i64 s'.first,.int .i64 s'.last],.int .i64 0]) ?_ rfl ?_
      ·exact results_cell_tmp_row rfl _ Wf (z+1) 80 _ (0,0) _ _ rfl rfl hblk Tryz.underlying80 rfl (by kernel_rfl)
      have hM:=HM9.out
      refine ⟨s',c',F',G',eA,en,ec,qs,sA,sn,sc,S,?_,hM.nd.hush (fun i hi hF _=>hof i hi fun e=>hM.nr.1 (e▸hF)) (Nat.le_of_eq hsf.symm) hbf,HHA.out.p,hcf,hM.sub,hM.sub',hM.nd.rest.msgs.keep fun i hi _=>hof i (fun e=>hM.nd.rest.dis b hM.nd.hb (e▸hi)) (fun e=>hM.nr.2.1 (e▸hi)),hM.ents.keep fun i hi=>hof i (fun e=>(hM.fresh i hi).2.2.1 (e▸hM.nd.hb)) (hM.fresh i hi).2.2.2.1,hM.len,hM.con,HOW.out.same fun j hj=>hof j (fun e=>?_) (fun e=>?_),fun i hi=>?_⟩
      ·rw [HFV.out,HWV.out]
       unfold readyG;simp
      ·have:=HOL.out j hj
       have:=HSZ.out.2.2.2.1 b (.inl hM.nd.hb)
       have:=HSZ.out
       omega
      ·have:=HOL.out j hj
       have:=HSZ.out
       omega
      ·rw [hsf]
       rcases hi with hi | hi
       ·have:=hM.fresh i hi;exact ⟨this.1,this.2.1,this.2.2.1⟩
       ·exact ⟨hM.subG i hi,hM.nd.rest.bdG i hi,fun h=>hM.nd.rest.dis i h hi⟩
end
end Go.Proofs.YtocogcgnahbpkaaGreat
