import Derived.Test.YtocogcgnahbpkaaGreatB12
import Derived.Test.YtocogcgnahbpkaaGreatB32
import Derived.Test.YtocogcgnahbpkaaGreatB33
namespace Go.Proofs.YtocogcgnahbpkaaGreat
open Go.RowKit
section
variable {P:Program} {ops:Array Oper} {Q:Exit→Act→World→Prop} {md:Region.Mode} {S:World→Prop} {oi:Oper} {fuel:Nat} {listed l':Array Bool} {a a':Act} {w:World}
theorem tkG320 (i:Nat) (v:Value) (h:wpAnyH P md ops Q S fuel l' a' w) (hh:Tk ops Q md S oi listed l' a a' w i v:=by exact tkm) (hw:Region.wanted oi (yielded ops a.tmps)=true:=by rfl) (hv:∀ w,S w→(execOp a.eval oi).run P w=.ok (.value v) w:=by
  intro w hSw;have e0:w.cell? ⟨z,0,none⟩=some (.int .i64 (kind:Int)):=cell_block hSw 0 _ rfl;go_simp):wpAnyH P md ops Q S (fuel+1) listed a w:=tk i v hv h hh hw
end
section
variable {w w1 w2:World} {F G:Nat→Prop} {b:Nat} {cf:Rf.Cfg} {draw:Int} {l0:List Rf.Ent} {p:Rf.Nd} {ms:List Rf.Msg}
set_option maxRecDepth 100000 in
set_option maxHeartbeats 20000000 in
theorem StepG_err (b:Nat) (s:NS) (c:NC) (kind:Nat) (draw err:Int) (f:Nat) (m0 m1 m2 m3 m4 m5 m6 m7 m8 m9 k12 k13 k14 k15:Value) (F:Nat→Prop) (P:NS→NC→Prop) (w:World) (h:NdAt w F (fun _=>False) b s c) (herr:err≠0) (hkind:1≤kind∧kind≤7) (hact:actCells[kind]?=some (.func (.func f) #[] #[])) (heg:∀ args w,(callFunc f args).run Tryz.prog w=.ok (.enter f args) w)
  (hms:c.msgs=[]∧c.mA=none∧c.mn=0∧c.mc=0)
  (hh:∀ (W:World) (F0:Nat→Prop) (c0:NC),NdAt W F0 (fun _=>False) b { s with draw:=draw,from_:=0,first:=0,last:=0 } c0→(∃ z,c0={ c with snR:=some z,sn:=[] })→Chg F w W→(∀ i,F0 i→F i∨w.heap.size≤i) →
   Calls Tryz.prog f #[.pointer (some ⟨b,0,none⟩),.agg #[.int .i64 (kind:Int),.int .i64 draw,m0,m1,m2,m3,m4,m5,m6,m7,m8,m9,k12,k13,k14,k15]] W fun e w'=>e=.returned (.int .i64 err)∧∃ s' c' F' G',HandG P b F0 W w' s' c' F' G') :
  Calls Tryz.prog 32 #[.pointer (some ⟨b,0,none⟩),.agg #[.int .i64 (kind:Int),.int .i64 draw,m0,m1,m2,m3,m4,m5,m6,m7,m8,m9,k12,k13,k14,k15]] w fun e w'=>e=.returned (.tuple #[.agg #[.int .i64 0,.int .i64 0,.bool false,.int .i64 0,.slice none 0 0,.slice none 0 0,.int .i64 0,.slice none 0 0,.int .i64 0,.int .i64 0,.int .i64 0,.int .i64 0],.int .i64 err])∧∃ s' c' F' G',NdAt w' F' G' b s' c'∧P s' c'∧Chg F w w'∧(∀ i,F i→F' i)∧(∀ i,F' i→F i∨w.heap.size≤i):=by
 have HERR:=ld herr
 have HEG:=ld heg
 have HACT:=ld hact
 have hw1:decide ((1:Int)≤(kind:Int)∧(kind:Int)≤7)=true:=decide_eq_true (by omega)
 have HK:=ld hkind
 clear herr heg hact
 go_enter Tryz.func32,Tryz.ntmps32
 go_wp2_with (fail)
 have hb0:Below w.heap.size w ((w.alloc (.cells #[.int .i64 (kind:Int),.int .i64 draw,m0,m1,m2,m3,m4,m5,m6,m7,m8,m9,k12,k13,k14,k15] 61)).alloc (.cells #[.int .i64 0,.int .i64 0,.bool false,.int .i64 0,.slice none 0 0,.slice none 0 0,.int .i64 0,.slice none 0 0,.int .i64 0,.int .i64 0,.int .i64 0,.int .i64 0] 80)):=(below_one w _).alloc (by simp) _
 have he0:((w.alloc (.cells #[.int .i64 (kind:Int),.int .i64 draw,m0,m1,m2,m3,m4,m5,m6,m7,m8,m9,k12,k13,k14,k15] 61)).alloc (.cells #[.int .i64 0,.int .i64 0,.bool false,.int .i64 0,.slice none 0 0,.slice none 0 0,.int .i64 0,.slice none 0 0,.int .i64 0,.int .i64 0,.int .i64 0,.int .i64 0] 80)).heap[w.heap.size]?=some (.cells #[.int .i64 (kind:Int),.int .i64 draw,m0,m1,m2,m3,m4,m5,m6,m7,m8,m9,k12,k13,k14,k15] 61 (0,0)):=block_alloc (World.alloc_at w _) _
 have hr0:((w.alloc (.cells #[.int .i64 (kind:Int),.int .i64 draw,m0,m1,m2,m3,m4,m5,m6,m7,m8,m9,k12,k13,k14,k15] 61)).alloc (.cells #[.int .i64 0,.int .i64 0,.bool false,.int .i64 0,.slice none 0 0,.slice none 0 0,.int .i64 0,.slice none 0 0,.int .i64 0,.int .i64 0,.int .i64 0,.int .i64 0] 80)).heap[w.heap.size+1]?=some (.cells #[.int .i64 0,.int .i64 0,.bool false,.int .i64 0,.slice none 0 0,.slice none 0 0,.int .i64 0,.slice none 0 0,.int .i64 0,.int .i64 0,.int .i64 0,.int .i64 0] 80 (0,0)):=by
  have:=World.alloc_at (w.alloc (.cells #[.int .i64 (kind:Int),.int .i64 draw,m0,m1,m2,m3,m4,m5,m6,m7,m8,m9,k12,k13,k14,k15] 61)) (.cells #[.int .i64 0,.int .i64 0,.bool false,.int .i64 0,.slice none 0 0,.slice none 0 0,.int .i64 0,.slice none 0 0,.int .i64 0,.int .i64 0,.int .i64 0,.int .i64 0] 80)
  rwa [World.alloc_size] at this
 have hz0:((w.alloc (.cells #[.int .i64 (kind:Int),.int .i64 draw,m0,m1,m2,m3,m4,m5,m6,m7,m8,m9,k12,k13,k14,k15] 61)).alloc (.cells #[.int .i64 0,.int .i64 0,.bool false,.int .i64 0,.slice none 0 0,.slice none 0 0,.int .i64 0,.slice none 0 0,.int .i64 0,.int .i64 0,.int .i64 0,.int .i64 0] 80)).heap.size=w.heap.size+2:=by simp
 generalize (w.alloc (.cells #[.int .i64 (kind:Int),.int .i64 draw,m0,m1,m2,m3,m4,m5,m6,m7,m8,m9,k12,k13,k14,k15] 61)).alloc (.cells #[.int .i64 0,.int .i64 0,.bool false,.int .i64 0,.slice none 0 0,.slice none 0 0,.int .i64 0,.slice none 0 0,.int .i64 0,.int .i64 0,.int .i64 0,.int .i64 0] 80)=W0 at hb0 he0 hr0 hz0 ⊢
 have HN0:=ld (h.below hb0)
 have HE0:=ld he0
 have HR0:=ld hr0
 have HZ0:=ld hz0
 have hF:=ld (show ∀ i,F i→i<w.heap.size from h.rest.bdF)
 obtain ⟨z,hz⟩:∃ z,z=w.heap.size:=⟨_,rfl⟩
 rw [←hz] at hb0 HE0 HR0 HZ0 hF
 rw [←hz]
 have HZ:=ld hz
 clear h he0 hr0 hz0 hz
 have ek:W0.cell? ⟨z,0,none⟩=some (.int .i64 (kind:Int)):=cell_block HE0.out 0 _ rfl
 have m1x:z<W0.heap.size:=by have:=HZ0.out;omega
 have hw7:IntKind.i64.wrap 7=7:=by decide
 have hk1:decide ((1:Int)≤(kind:Int))=true:=decide_eq_true (by have:=HK.out;omega)
 have hk7:decide ((kind:Int)≤7)=true:=decide_eq_true (by have:=HK.out;omega)
 have hk0:(0:Int)≤(kind:Int):=by omega
 have hk8:(kind:Int)<8:=by have:=HK.out;omega
 go_region_held3 (fun w'=>w'.cell? ⟨z,0,none⟩=some (.int .i64 (kind:Int))) (first | go_keep | (go_split_ands;exact ((bcell hb1).1 _ _ m1x).trans ek))
  (first
   | (go_at_call 56;refine (steps_any _).mono ?_;rintro e w1 ⟨rfl,rfl⟩)
   | (go_at_call 55;refine (within_any _ _ _ _).mono ?_;rintro e w1 ⟨rfl,rfl⟩))
 clear hw7 hk1 hk7 ek hw1
 have hb1:Below W0.heap.size W0 (W0.alloc (.cells actCells 129)).drew:=(below_one W0 _).drew
 have hz1:(W0.alloc (.cells actCells 129)).drew.heap.size=z+3:=by show (W0.alloc _).heap.size=_;rw [World.alloc_size,HZ0.out]
 generalize (W0.alloc (.cells actCells 129)).drew=W1 at hb1 hz1 ⊢
 have HN1:=ld (HN0.out.below hb1)
 have HE1:=ld ((hb1.block z m1x).trans HE0.out)
 have HR1:=ld ((hb1.block (z+1) (block_lt HR0.out)).trans HR0.out)
 have hbb1:Below z w W1:=by have:=hb0.size;exact hb0.trans (hb1.mono (by omega))
 have HZ1:=ld hz1
 clear HN0 HE0 HR0 HZ0 hb0 hb1 hz1 m1x
 have hB:=HN1.out.blk
 have c6:=nc6 hB
 have c7:=nc7 hB
 have hlb:b<W1.heap.size:=HN1.out.lt
 have e1:W1.cell? ⟨z,1,none⟩=some (.int .i64 draw):=cell_block HE1.out 1 _ rfl
 have hlz:z<W1.heap.size:=block_lt HE1.out
 clear hB
 go_wp2_with (fail)
 rw [run_makeMap,World.alloc_size,HZ1.out]
 have hb2:Below W1.heap.size W1 ((W1.alloc (.cells #[.int .i64 s.term,.int .i64 s.vote] 45)).alloc (.map #[] 0)):=(below_one W1 _).alloc (by simp) _
 have hm2:MB ((W1.alloc (.cells #[.int .i64 s.term,.int .i64 s.vote] 45)).alloc (.map #[] 0)) (z+3+1) []:=by
  have:=MapG.made (P:=Tryz.prog) (k:=3) (kenc:=Value.int .i64) (venc:=fun _:Unit=>Value.bool true) (W1.alloc (.cells #[.int .i64 s.term,.int .i64 s.vote] 45))
  rwa [World.alloc_size,HZ1.out] at this
 have hh2:((W1.alloc (.cells #[.int .i64 s.term,.int .i64 s.vote] 45)).alloc (.map #[] 0)).heap[z+3]?=some (.cells #[.int .i64 s.term,.int .i64 s.vote] 45 (0,0)):=by
  rw [←HZ1.out];exact block_alloc (World.alloc_at W1 _) _
 have hz2:((W1.alloc (.cells #[.int .i64 s.term,.int .i64 s.vote] 45)).alloc (.map #[] 0)).heap.size=z+5:=by rw [World.alloc_size,World.alloc_size,HZ1.out]
 generalize (W1.alloc (.cells #[.int .i64 s.term,.int .i64 s.vote] 45)).alloc (.map #[] 0)=W2 at hb2 hm2 hh2 hz2 ⊢
 have HN2:=ld (HN1.out.below hb2)
 have HN2':=ld (step_maps (draw:=draw) HN1.out hb2 (by have:=HZ1.out;omega) hm2 hms)
 have HE2:=ld ((hb2.block z hlz).trans HE1.out)
 have HR2:=ld ((hb2.block (z+1) (block_lt HR1.out)).trans HR1.out)
 have HH2:=ld hh2
 have hbb2:Below z w W2:=by have:=HZ1.out;exact hbb1.trans (hb2.mono (by omega))
 have HZ2:=ld hz2
 clear c6 c7 hlb e1 hlz HN1 HE1 HR1 hbb1 HZ1 hb2 hm2 hh2 hz2
 have hB:=HN2.out.blk
 have c23:=nc23 hB
 have c24:=nc24 hB
 have c25:=nc25 hB
 have c26:=nc26 hB
 have c27:=nc27 hB
 have c28:=nc28 hB
 have hf:=frozen_block hB
 clear hB
 go_upto_region 5 with (fail)
 have hbF:b<z:=hF.out b HN2.out.hb
 have hot:∀ i,i≠b→(((((((W2.setCell ⟨b,23,none⟩ (.int .i64 draw)).setCell ⟨b,24,none⟩ (.slice none 0 0)).setCell ⟨b,25,none⟩ (.map (some (z+3+1)))).setCell ⟨b,26,none⟩ (.int .i64 0)).setCell ⟨b,27,none⟩ (.int .i64 0)).setCell ⟨b,28,none⟩ (.int .i64 0))).heap[i]?=W2.heap[i]?:=fun i hi=>by
  rw [Below.heap_setCell _ _ _ _ hi,Below.heap_setCell _ _ _ _ hi,Below.heap_setCell _ _ _ _ hi,Below.heap_setCell _ _ _ _ hi,Below.heap_setCell _ _ _ _ hi,Below.heap_setCell _ _ _ _ hi]
 have HE3:=ld ((hot z (by omega)).trans HE2.out)
 have HR3:=ld ((hot (z+1) (by omega)).trans HR2.out)
 have HH3:=ld ((hot (z+3) (by omega)).trans HH2.out)
 have hC3:Chg F w (((((((W2.setCell ⟨b,23,none⟩ (.int .i64 draw)).setCell ⟨b,24,none⟩ (.slice none 0 0)).setCell ⟨b,25,none⟩ (.map (some (z+3+1)))).setCell ⟨b,26,none⟩ (.int .i64 0)).setCell ⟨b,27,none⟩ (.int .i64 0)).setCell ⟨b,28,none⟩ (.int .i64 0))):=by
  have hbb:Chg F w W2:=Chg.ofBelow (by rw [←HZ.out];exact hbb2)
  exact chgF (chgF (chgF (chgF (chgF (chgF hbb HN2.out.hb _) HN2.out.hb _) HN2.out.hb _) HN2.out.hb _) HN2.out.hb _) HN2.out.hb _
 have hz3:(((((((W2.setCell ⟨b,23,none⟩ (.int .i64 draw)).setCell ⟨b,24,none⟩ (.slice none 0 0)).setCell ⟨b,25,none⟩ (.map (some (z+3+1)))).setCell ⟨b,26,none⟩ (.int .i64 0)).setCell ⟨b,27,none⟩ (.int .i64 0)).setCell ⟨b,28,none⟩ (.int .i64 0))).heap.size=z+5:=by simp only [World.setCell,Array.size_modify];exact HZ2.out
 clear hot HE2 HR2 HH2 hbb2 HZ2 HN2 c23 c24 c25 c26 c27 c28 hf
 have HN3:=HN2'
 clear HN2'
 generalize ((((((W2.setCell ⟨b,23,none⟩ (.int .i64 draw)).setCell ⟨b,24,none⟩ (.slice none 0 0)).setCell ⟨b,25,none⟩ (.map (some (z+3+1)))).setCell ⟨b,26,none⟩ (.int .i64 0)).setCell ⟨b,27,none⟩ (.int .i64 0)).setCell ⟨b,28,none⟩ (.int .i64 0))=W3 at HN3 HE3 HR3 HH3 hC3 hz3 ⊢
 have HZ3:=ld hz3
 have HC3:=ld hC3
 clear hz3 hC3
 obtain ⟨c0,hc0⟩:∃ c0:NC,c0={ c with snR:=some (z+3+1),sn:=[] }:=⟨_,rfl⟩
 obtain ⟨F0,hF0⟩:∃ F0:Nat→Prop,F0=fun i=>F i∨i=z+3+1:=⟨_,rfl⟩
 rw [←hc0,←hF0] at HN3
 have HC0:=ld hc0
 have HF0:=ld hF0
 have HHc:=ld (hh (W3.alloc (.cells actCells 129)).drew F0 c0 (HN3.out.below (below_one W3 _).drew) ⟨_,hc0⟩ (HC3.out.alloc _).drew (fun i hi=>by
  rw [hF0] at hi
  rcases hi with hi | hi
  ·exact .inl hi
  ·right
   have:=HZ.out
   omega))
 clear hc0 hF0 hh
 go_cut [7] (fun v wx=>v=.int .i64 err∧Hid (∃ s' c' F' G',HandG P b F0 W3 wx s' c' F' G'))
 case first =>
  have hlz:z<W3.heap.size:=by have:=HZ3.out;omega
  have HZF:=ld (show ¬ F0 z from fun h=>by rw [HF0.out] at h;rcases h with h | h;have:=hF.out z h;omega;omega)
  have HE3d:Hid (W3.drew.heap[z]?=some (.cells #[.int .i64 (kind:Int),.int .i64 draw,m0,m1,m2,m3,m4,m5,m6,m7,m8,m9,k12,k13,k14,k15] 61 (0,0))):=ld HE3.out
  have ha:(W3.alloc (.cells actCells 129)).cell? ⟨W3.heap.size,kind,none⟩=some (.func (.func f) #[] #[]):=cell_block (World.alloc_at W3 _) kind _ HACT.out
  refine wp_region_held_drew (S:=fun W:World=>W.heap[z]?=some (.cells #[.int .i64 (kind:Int),.int .i64 draw,m0,m1,m2,m3,m4,m5,m6,m7,m8,m9,k12,k13,k14,k15] 61 (0,0))) (by kernel_rfl) HE3d.out (fun hHeld=>?_)
  refine tkG320 1 (.pointer (some ⟨z,0,none⟩)) ?_
  refine tkG320 2 (.int .i64 (kind:Int)) ?_
  refine tkG320 6 (.pointer (some ⟨b,0,none⟩)) ?_
  refine tk 7 (.agg #[.int .i64 (kind:Int),.int .i64 draw,m0,m1,m2,m3,m4,m5,m6,m7,m8,m9,k12,k13,k14,k15]) ?_ ?_
  ·intro w hSw;obtain ⟨e0,e1,e2,e3,e4,e5,e6,e7,e8,e9,e10,e11,e12,e13,e14,e15⟩:=cells16 hSw;go_simp
  refine rdy 0 fun K hK=>?_
  go_simp
  refine (steps_any _).mono ?_
  rintro e w4 ⟨rfl,rfl⟩
  go_wp2_with fail
  refine hks hK ?_ fun hHeld=>?_
  ·exact block_alloc HE3.out _
  clear hK K
  refine tk 3 (.pointer (some ⟨W3.heap.size,kind,none⟩)) ?_ ?_
  ·intro w hSw;have e0:w.cell? ⟨z,0,none⟩=some (.int .i64 (kind:Int)):=cell_block hSw 0 _ rfl;have h9:(kind:Int)<8:=by have:=HK.out;omega
   go_simp
  refine tkG320 4 (.pointer (some ⟨W3.heap.size,kind,none⟩)) ?_
  refine rdy 5 fun K hK=>?_
  go_simp
  refine hks hK ?_ fun hHeld=>?_
  ·exact by assumption
  clear hK K
  refine rdy 8 fun K hK=>?_
  have heg:=HEG.out
  go_simp
  clear heg
  refine HHc.out.mono ?_
  rintro e w5 ⟨rfl,s5,c5,F5,G5,hH5⟩
  have hE5:=(hH5.chg.keep (by show z<(W3.alloc _).heap.size;rw [World.alloc_size];omega) HZF.out).trans (block_alloc HE3.out _)
  have HH5:=ld (hH5.from (W0:=W3) ((Chg.refl (F:=F0)).alloc _).drew)
  clear hH5
  go_wp2_with fail
  refine hks hK ?_ fun hHeld=>?_
  ·exact hE5
  clear hK K
  refine tkG320 9 (.int .i64 err) ?_
  refine don ?_
  go_wp2_with fail
  go_meet
  exact ⟨rfl,ld ⟨s5,c5,F5,G5,HH5.out⟩⟩
 case rest =>
  obtain ⟨rfl,hHh⟩:=hcut
  obtain ⟨s',c',F',G',hH⟩:=hHh.out
  clear hHh
  have hF0:=HF0.out
  have hout:∀ i,z≤i→i<z+4→¬ F0 i:=fun i h1 h2 h=>by
   rw [hF0] at h
   rcases h with h | h
   ·have:=hF.out i h;omega
   ·omega
  have hz3:=HZ3.out
  have HR4:=ld ((hH.chg.keep (i:=z+1) (by omega) (hout _ (by omega) (by omega))).trans HR3.out)
  have HHA:=ld hH
  have HNZ:Hid (¬ F' (z+1)∧¬ G' (z+1)):=ld ⟨fun h=>by
   rcases hH.sub' _ h with h | h
   ·exact hout _ (by omega) (by omega) h
   ·omega,fun h=>by have:=hH.subG _ h;omega⟩
  clear hF0 hout hz3 HR3 HH3 HE3 hH
  have hez:(err != 0)=true:=by rw [bne_iff_ne];exact HERR.out
  have hez2:(err==0)=false:=by rw [beq_eq_false_iff_ne];exact HERR.out
  obtain ⟨r0,r1,r2,r3,r4,r5,r6,r7,r8,r9,r10,r11⟩:=cells12 HR4.out
  have fr:=frozen_block HR4.out
  have l2:z+1<wc.heap.size:=block_lt HR4.out
  go_wp2_with (fail)
  have st:=store12 HR4.out (.int .i64 0) (.int .i64 0) (.bool false) (.int .i64 0) (.slice none 0 0) (.slice none 0 0) (.int .i64 0) (.slice none 0 0) (.int .i64 0) (.int .i64 0) (.int .i64 0) (.int .i64 0)
  have hof:=st.2.1
  have hsf:=st.2.2.1
  have hblk:=st.1
  have hcf:Chg (fun i=>i=z+1) wc ((((((((((((wc.setCell ⟨z+1,0,none⟩ (.int .i64 0)).setCell ⟨z+1,1,none⟩ (.int .i64 0)).setCell ⟨z+1,2,none⟩ (.bool false)).setCell ⟨z+1,3,none⟩ (.int .i64 0)).setCell ⟨z+1,4,none⟩ (.slice none 0 0)).setCell ⟨z+1,5,none⟩ (.slice none 0 0)).setCell ⟨z+1,6,none⟩ (.int .i64 0)).setCell ⟨z+1,7,none⟩ (.slice none 0 0)).setCell ⟨z+1,8,none⟩ (.int .i64 0)).setCell ⟨z+1,9,none⟩ (.int .i64 0)).setCell ⟨z+1,10,none⟩ (.int .i64 0)).setCell ⟨z+1,11,none⟩ (.int .i64 0)):=(((((((((((((Chg.refl (F:=fun i=>i=z+1)).setCell (p:=⟨z+1,0,none⟩) (.inl rfl) (.int .i64 0)).setCell (p:=⟨z+1,1,none⟩) (.inl rfl) (.int .i64 0)).setCell (p:=⟨z+1,2,none⟩) (.inl rfl) (.bool false)).setCell (p:=⟨z+1,3,none⟩) (.inl rfl) (.int .i64 0)).setCell (p:=⟨z+1,4,none⟩) (.inl rfl) (.slice none 0 0)).setCell (p:=⟨z+1,5,none⟩) (.inl rfl) (.slice none 0 0)).setCell (p:=⟨z+1,6,none⟩) (.inl rfl) (.int .i64 0)).setCell (p:=⟨z+1,7,none⟩) (.inl rfl) (.slice none 0 0)).setCell (p:=⟨z+1,8,none⟩) (.inl rfl) (.int .i64 0)).setCell (p:=⟨z+1,9,none⟩) (.inl rfl) (.int .i64 0)).setCell (p:=⟨z+1,10,none⟩) (.inl rfl) (.int .i64 0)).setCell (p:=⟨z+1,11,none⟩) (.inl rfl) (.int .i64 0))
  obtain ⟨s0,s1,s2,s3,s4,s5,s6,s7,s8,s9,s10,s11⟩:=cells12 st.1
  clear st r0 r1 r2 r3 r4 r5 r6 r7 r8 r9 r10 r11 fr
  with_reducible generalize ((((((((((((wc.setCell ⟨z+1,0,none⟩ (.int .i64 0)).setCell ⟨z+1,1,none⟩ (.int .i64 0)).setCell ⟨z+1,2,none⟩ (.bool false)).setCell ⟨z+1,3,none⟩ (.int .i64 0)).setCell ⟨z+1,4,none⟩ (.slice none 0 0)).setCell ⟨z+1,5,none⟩ (.slice none 0 0)).setCell ⟨z+1,6,none⟩ (.int .i64 0)).setCell ⟨z+1,7,none⟩ (.slice none 0 0)).setCell ⟨z+1,8,none⟩ (.int .i64 0)).setCell ⟨z+1,9,none⟩ (.int .i64 0)).setCell ⟨z+1,10,none⟩ (.int .i64 0)).setCell ⟨z+1,11,none⟩ (.int .i64 0))=Wf at hof hsf hcf s0 s1 s2 s3 s4 s5 s6 s7 s8 s9 s10 s11 hblk ⊢
  have l4:z+1<Wf.heap.size:=by rw [hsf];exact l2
  try simp only [Exit.inBlock,Exit.then]
  refine bodyPost_ret (v:=.tuple #[.agg #[.int .i64 0,.int .i64 0,.bool false,.int .i64 0,.slice none 0 0,.slice none 0 0,.int .i64 0,.slice none 0 0,.int .i64 0,.int .i64 0,.int .i64 0,.int .i64 0],.int .i64 err]) ?_ rfl ?_
  ·exact results_cell_tmp_row rfl _ Wf (z+1) 80 _ (0,0) _ _ rfl rfl hblk Tryz.underlying80 rfl (by kernel_rfl)
  have hH:=HHA.out
  refine ⟨rfl,s',c',F',G',hH.nd.keep (Nat.le_of_eq hsf.symm) (fun i hi _=>hof i fun e=>by subst e;rcases hi with hi | hi;exact HNZ.out.1 hi;exact HNZ.out.2 hi),hH.p,((HC3.out.trans2 hH.chg (fun i hi=>by
   have hF0:=HF0.out
   have:=HZ.out
   rw [hF0] at hi
   rcases hi with h | h
   ·exact .inl h
   ·right;omega)).trans2 hcf fun i hi=>by have:=HZ.out;right;omega),fun i hi=>hH.sub i (by rw [HF0.out];exact .inl hi),fun i hi=>?_⟩
  have:=HZ3.out
  have:=HZ.out
  rcases hH.sub' i hi with h | h
  ·rw [HF0.out] at h
   rcases h with h | h
   ·exact .inl h
   ·right;omega
  ·right;omega
end
def IdleAt (w:World) (F:Nat→Prop) (b:Nat) (cf:Rf.Cfg) (p:Rf.Nd):Prop:=∃ s c,NdAt w F (fun _=>False) b s c∧Rel cf s.draw s c p∧c.msgs=[]∧c.mA=none∧c.mn=0∧c.mc=0
structure MsgsS (w:World) (S:Nat→Prop) (A:Option Addr) (ms:List (MR×List (LE×List Int))):Prop where
 row:RowS encM 10 w S A (ms.map (·.1))
 each:∀ m∈ms,EntsS w S m.1.eA m.2∧m.1.en=m.2.length∧m.1.en≤m.1.ec
structure Rdy (w:World) (S:Nat→Prop) (p p':Rf.Nd) (ms:List Rf.Msg) (k:Nat) (wr:Bool) (eA:Option Addr) (en ec:Nat) (mA:Option Addr) (mn mc:Nat):Prop where
 ents:∃ qs,EntsS w S eA qs∧en=qs.length∧en≤ec∧qs.map con=numb k (p'.log.drop k)
 msgs:∃ mqs,MsgsS w S mA mqs∧mn=mqs.length∧mn≤mc∧mqs.map pmOf=ms.map pmR
 le:k≤p.log.length∧k≤p'.log.length
 tk:p'.log.take k=p.log.take k
 same:wr=false→p'.term=p.term∧p'.vote=p.vote∧p'.log=p.log
section
variable {w w':World} {F G S S':Nat→Prop} {b:Nat} {cf:Rf.Cfg} {draw:Int} {p p':Rf.Nd} {ms:List Rf.Msg}
theorem Own.rowF {α:Type} {enc:α→List Value} {sz:Nat} {e:TypeId} {base n c:Nat} {A:Option Addr} {xs:List α} (hs:∀ x,(enc x).length=sz) (h:Own enc sz e w base (.slice A n c) xs) (hF:∀ k,(Value.slice A n c).ownBlock=some k→S k):RowS enc sz w S A xs:=by
 rcases h.2 with ⟨_,h0⟩ | ⟨g,cap,cur,hv,hb,hg,h1,h2,h3,h4⟩
 ·exact .inl (List.eq_nil_of_length_eq_zero h0)
 ·have hr:=Own.row (A:=A) (c:=c) hs (by have:=(Own.cap h).1;subst this;exact h)
  injection hv with hA _ _
  subst hA
  rcases hr with hr | ⟨b,o,e,hb,hc⟩
  ·exact .inl hr
  ·refine .inr ⟨b,o,e,hF b ?_,hc⟩
   injection e with e
   injection e with e _ _
   rw [Value.ownBlock,←e]
theorem EntsF.entsS {A:Option Addr} {n c:Nat} {qs:List (LE×List Int)} (h:EntsF w F (.slice A n c) qs):EntsS w F A qs∧n=qs.length∧n≤c:=by
 have hc:=Own.cap h.own
 rw [List.length_map] at hc
 exact ⟨⟨h.own.rowF len_LE h.inF,fun q hq=>⟨(h.each q hq).1.rowF len_B (h.each q hq).2.1,(Own.cap (h.each q hq).1).1,(h.each q hq).2.2⟩⟩,hc⟩
theorem MsgsF.msgsS {A:Option Addr} {n c:Nat} {ms:List (MR×List (LE×List Int))} (h:MsgsF w F (.slice A n c) ms):MsgsS w F A ms∧n=ms.length∧n≤c:=by
 have hc:=Own.cap h.own
 rw [List.length_map] at hc
 exact ⟨⟨h.own.rowF len_M h.inF,fun m hm=>(h.each m hm).entsS⟩,hc⟩
theorem MsgsS.mono {A:Option Addr} {ms:List (MR×List (LE×List Int))} (h:MsgsS w S A ms) (hs:∀ i,S i→S' i):MsgsS w S' A ms :=
 ⟨h.row.mono hs,fun m hm=>⟨(h.each m hm).1.mono hs,(h.each m hm).2⟩⟩
theorem MsgsS.keep {A:Option Addr} {ms:List (MR×List (LE×List Int))} (h:MsgsS w S A ms) (hk:∀ i,S i→w'.heap[i]?=w.heap[i]?):MsgsS w' S A ms :=
 ⟨h.row.keep hk,fun m hm=>⟨(h.each m hm).1.keep hk,(h.each m hm).2⟩⟩
theorem IdleAt.keep (h:IdleAt w F b cf p) (hsz:w.heap.size≤w'.heap.size) (hk:∀ i,F i→i<w.heap.size→w'.heap[i]?=w.heap[i]?):IdleAt w' F b cf p:=by
 obtain ⟨s,c,hN,h2⟩:=h
 exact ⟨s,c,hN.keep hsz fun i hi hl=>hi.elim (fun h=>hk i h hl) (fun h=>h.elim),h2⟩
theorem IdleAt.bd (h:IdleAt w F b cf p):(∀ i,F i→i<w.heap.size)∧F b:=by
 obtain ⟨s,c,hN,_⟩:=h;exact ⟨hN.rest.bdF,hN.hb⟩
def Pnode (cf:Rf.Cfg) (draw:Int) (p p':Rf.Nd) (ms:List Rf.Msg) (s':NS) (c':NC):Prop:=Rel cf draw s' c' p'∧c'.msgs.map pmOf=ms.map pmR∧FromOK s'.from_ p.log p'.log
theorem Pnode.ok {s':NS} {c':NC} (h:Pnode cf draw p p' ms s' c') (hf:Fits cf p'):StepOK s' c':=by
 obtain ⟨hR,hM,hF⟩:=h
 have hl:=hR.len
 have hz:=hR.zero
 have hn:=hf.n
 refine ⟨by omega,by rw [hl];exact hf.fin,fun h=>?_,by rw [hR.pl];omega,fun q hq=>?_⟩
 ·rcases hF with ⟨h1,_⟩ | ⟨k,h1,h2,h3,_⟩
  ·omega
  ·omega
 ·rw [hR.peers] at hq
  obtain ⟨k,hk,rfl⟩:=ints_mem hq
  have:=List.mem_range'_1.1 hk
  unfold okI;omega
theorem IdleAt.node {s:NS} {c:NC} {W:World} {F0:Nat→Prop} {z:Nat} (hR:Rel cf s.draw s c p) (hm:c.msgs=[]) (h:NdAt W F0 (fun _=>False) b { s with draw:=draw,from_:=0,first:=0,last:=0 } { c with snR:=some z,sn:=[] }):NodeAt W F0 (fun _=>False) b cf draw p.log p [] :=
 ⟨_,_,h,⟨hR.id,hR.cfg,hR.hard,hR.zero,hR.commit,hR.role,hR.time,rfl,hR.peers,hR.log,hR.lead,hR.gr,hR.rf,rfl⟩,by show c.msgs.map pmOf=_;rw [hm];rfl,.inl ⟨rfl,rfl⟩⟩
theorem After.hand {W w':World} {F0:Nat→Prop} (h:After W w' F0 (fun _=>False) b cf draw p.log p' ms):∃ s' c' F' G',HandG (Pnode cf draw p p' ms) b F0 W w' s' c' F' G':=by
 obtain ⟨F',G',⟨s',c',hN,hR,hM,hF⟩,hg⟩:=h
 exact ⟨s',c',F',G',hN,⟨hR,hM,hF⟩,hg.chg.mono fun i hi=>hi.elim .inl fun h=>h.elim,hg.subF,hg.newF,fun i hi=>(hg.newG i hi).elim (fun h=>h.elim) id⟩
theorem SteppedG.rdy {s':NS} {c':NC} {F' G':Nat→Prop} {eA:Option Addr} {en ec:Nat} {qs:List (LE×List Int)} {sA:Option Addr} {sn sc:Nat} {hd:Bool} (h:SteppedG (Pnode cf draw p p' ms) w w' F b s' c' F' G' eA en ec qs sA sn sc S) (hd1:hd=false→p'.term=p.term∧p'.vote=p.vote) :
  IdleAt w' F' b cf p'∧∃ k,Rdy w' (fun i=>S i∨G' i) p p' ms k (hd||decide (0<s'.from_)) eA en ec c'.mA c'.mn c'.mc∧(if 0<s'.from_ then s'.from_ else s'.snap+c'.ln+1)=(k:Int)+1:=by
 obtain ⟨hR,hM,hF⟩:=h.p
 have hln:c'.ln=c'.log.length:=h.nd.rest.log.ents.2.1
 have hl:=hR.len
 have hz:=hR.zero
 obtain ⟨hms,hmn,hmc⟩:=h.msgs.msgsS
 refine ⟨⟨s',c'.hush,h.nd,⟨hR.id,hR.cfg,hR.hard,hR.zero,hR.commit,hR.role,hR.time,rfl,hR.peers,hR.log,hR.lead,hR.gr,hR.rf,hR.sn⟩,rfl,rfl,rfl,rfl⟩,?_⟩
 have hmm:∃ mqs,MsgsS w' (fun i=>S i∨G' i) c'.mA mqs∧c'.mn=mqs.length∧c'.mn≤c'.mc∧mqs.map pmOf=ms.map pmR:=⟨c'.msgs,hms.mono fun i hi=>.inr hi,hmn,hmc,hM⟩
 rcases hF with ⟨h1,h2⟩ | ⟨k,h1,h2,h3,h4⟩
 ·refine ⟨p'.log.length,⟨⟨qs,h.ents.mono fun i hi=>.inl hi,h.len.1,h.len.2,?_⟩,hmm,by rw [h2];exact ⟨Nat.le_refl _,Nat.le_refl _⟩,by rw [h2],fun he=>?_⟩,?_⟩
  ·rw [h.con,if_neg (by omega),List.drop_length];rfl
  ·rw [Bool.or_eq_false_iff] at he
   exact ⟨(hd1 he.1).1,(hd1 he.1).2,h2⟩
  ·rw [if_neg (by omega)];omega
 ·refine ⟨k,⟨⟨qs,h.ents.mono fun i hi=>.inl hi,h.len.1,h.len.2,?_⟩,hmm,⟨h2,h3⟩,h4,fun he=>?_⟩,?_⟩
  ·rw [h.con,if_pos (by omega),hR.log,numb_drop,Nat.zero_add,show (s'.from_-s'.snap-1).toNat=k by omega]
  ·rw [Bool.or_eq_false_iff,decide_eq_false_iff_not] at he
   omega
  ·rw [if_pos (by omega)];omega
theorem step_ok (h:IdleAt w F b cf p) (hf:Fits cf p') (kind:Nat) (f:Nat) (m0 m1 m2 m3 m4 m5 m6 m7 m8 m9 k12 k13 k14 k15:Value) (hkind:1≤kind∧kind≤7) (hact:actCells[kind]?=some (.func (.func f) #[] #[])) (heg:∀ args w,(callFunc f args).run Tryz.prog w=.ok (.enter f args) w)
  (hh:∀ (W:World) (F0:Nat→Prop),NodeAt W F0 (fun _=>False) b cf draw p.log p []→Chg F w W→(∀ i,F0 i→F i∨w.heap.size≤i) →
   Calls Tryz.prog f #[.pointer (some ⟨b,0,none⟩),.agg #[.int .i64 (kind:Int),.int .i64 draw,m0,m1,m2,m3,m4,m5,m6,m7,m8,m9,k12,k13,k14,k15]] W fun e w'=>e=.returned (.int .i64 0)∧After W w' F0 (fun _=>False) b cf draw p.log p' ms) :
  Calls Tryz.prog 32 #[.pointer (some ⟨b,0,none⟩),.agg #[.int .i64 (kind:Int),.int .i64 draw,m0,m1,m2,m3,m4,m5,m6,m7,m8,m9,k12,k13,k14,k15]] w fun e w'=>∃ (F' S:Nat→Prop) (k:Nat) (wr:Bool) (eA:Option Addr) (en ec:Nat) (mA:Option Addr) (mn mc:Nat) (sA:Option Addr) (sn sc:Nat) (fi la:Int),
   e=.returned (.tuple #[.agg #[.int .i64 p'.term,.int .i64 p'.vote,.bool wr,.int .i64 ((k:Int)+1),.slice eA en ec,.slice mA mn mc,.int .i64 p'.commit,.slice sA sn sc,.int .i64 p'.role,.int .i64 p'.leader,.int .i64 fi,.int .i64 la],.int .i64 0]) ∧
   IdleAt w' F' b cf p'∧Rdy w' S p p' ms k wr eA en ec mA mn mc∧Chg F w w'∧(∀ i,F i→F' i)∧(∀ i,F' i→F i∨w.heap.size≤i)∧(∀ i,S i→w.heap.size≤i∧i<w'.heap.size∧¬ F' i):=by
 obtain ⟨s,c,hN,hR,hm1,hm2,hm3,hm4⟩:=h
 have hhard:∀ s' c',Pnode cf draw p p' ms s' c'→((s'.term=s.term∧s'.vote=s.vote)↔(p'.term=p.term∧p'.vote=p.vote)):=fun s' c' hp=>by
  have h1:=hp.1.hard
  have h2:=hR.hard
  omega
 have hhand:∀ (W:World) (F0:Nat→Prop) (c0:NC),NdAt W F0 (fun _=>False) b { s with draw:=draw,from_:=0,first:=0,last:=0 } c0→(∃ z,c0={ c with snR:=some z,sn:=[] })→Chg F w W→(∀ i,F0 i→F i∨w.heap.size≤i) →
   Calls Tryz.prog f #[.pointer (some ⟨b,0,none⟩),.agg #[.int .i64 (kind:Int),.int .i64 draw,m0,m1,m2,m3,m4,m5,m6,m7,m8,m9,k12,k13,k14,k15]] W fun e w'=>e=.returned (.int .i64 0)∧∃ s' c' F' G',HandG (Pnode cf draw p p' ms) b F0 W w' s' c' F' G':=by
  rintro W F0 c0 h1 ⟨z,rfl⟩ h2 h3
  refine (hh W F0 (IdleAt.node hR hm1 h1) h2 h3).mono ?_
  rintro e w' ⟨rfl,hA⟩
  exact ⟨rfl,hA.hand⟩
 have fin:∀ (hd:Bool) (e:Ending) (w':World),(hd=false→p'.term=p.term∧p'.vote=p.vote)→(∃ s' c' F' G' eA en ec qs sA sn sc S,e=.returned (.tuple #[readyG hd s' c' eA en ec sA sn sc,.int .i64 0])∧SteppedG (Pnode cf draw p p' ms) w w' F b s' c' F' G' eA en ec qs sA sn sc S) →
   ∃ (F' S:Nat→Prop) (k:Nat) (wr:Bool) (eA:Option Addr) (en ec:Nat) (mA:Option Addr) (mn mc:Nat) (sA:Option Addr) (sn sc:Nat) (fi la:Int),e=.returned (.tuple #[.agg #[.int .i64 p'.term,.int .i64 p'.vote,.bool wr,.int .i64 ((k:Int)+1),.slice eA en ec,.slice mA mn mc,.int .i64 p'.commit,.slice sA sn sc,.int .i64 p'.role,.int .i64 p'.leader,.int .i64 fi,.int .i64 la],.int .i64 0]) ∧
   IdleAt w' F' b cf p'∧Rdy w' S p p' ms k wr eA en ec mA mn mc∧Chg F w w'∧(∀ i,F i→F' i)∧(∀ i,F' i→F i∨w.heap.size≤i)∧(∀ i,S i→w.heap.size≤i∧i<w'.heap.size∧¬ F' i):=by
  rintro hd e w' hd1 ⟨s',c',F',G',eA,en,ec,qs,sA,sn,sc,S,rfl,hS⟩
  obtain ⟨hI,k,hr,hk⟩:=hS.rdy hd1
  have hR':=hS.p.1
  refine ⟨F',_,k,_,eA,en,ec,c'.mA,c'.mn,c'.mc,sA,sn,sc,s'.first,s'.last,?_,hI,hr,hS.chg,hS.sub,hS.sub',hS.fresh⟩
  unfold readyG
  rw [hk,hR'.hard.1,hR'.hard.2,hR'.commit,hR'.role.1,hR'.role.2]
 by_cases hc:p'.term=p.term∧p'.vote=p.vote
 ·refine (StepG_any false b s c kind draw f m0 m1 m2 m3 m4 m5 m6 m7 m8 m9 k12 k13 k14 k15 F (Pnode cf draw p p' ms) w hN hkind hact heg ⟨hm1,hm2,hm3,hm4⟩ (fun s' c' hp=>⟨hp.ok hf,⟨fun h=>absurd h (by decide),fun h=>absurd ((hhard s' c' hp).2 hc) h⟩⟩) hhand).mono fun e w' he=>fin false e w' (fun _=>hc) he
 ·refine (StepG_any true b s c kind draw f m0 m1 m2 m3 m4 m5 m6 m7 m8 m9 k12 k13 k14 k15 F (Pnode cf draw p p' ms) w hN hkind hact heg ⟨hm1,hm2,hm3,hm4⟩ (fun s' c' hp=>⟨hp.ok hf,⟨fun _ hx=>hc ((hhard s' c' hp).1 hx),fun _=>rfl⟩⟩) hhand).mono fun e w' he=>fin true e w' (fun hx=>absurd hx (by decide)) he
theorem step_err (h:IdleAt w F b cf p) (kind:Nat) (err:Int) (f:Nat) (m0 m1 m2 m3 m4 m5 m6 m7 m8 m9 k12 k13 k14 k15:Value) (herr:err≠0) (hkind:1≤kind∧kind≤7) (hact:actCells[kind]?=some (.func (.func f) #[] #[])) (heg:∀ args w,(callFunc f args).run Tryz.prog w=.ok (.enter f args) w)
  (hh:∀ (W:World) (F0:Nat→Prop),NodeAt W F0 (fun _=>False) b cf draw p.log p []→Chg F w W→(∀ i,F0 i→F i∨w.heap.size≤i) →
   Calls Tryz.prog f #[.pointer (some ⟨b,0,none⟩),.agg #[.int .i64 (kind:Int),.int .i64 draw,m0,m1,m2,m3,m4,m5,m6,m7,m8,m9,k12,k13,k14,k15]] W fun e w'=>e=.returned (.int .i64 err)∧Below W.heap.size W w') :
  Calls Tryz.prog 32 #[.pointer (some ⟨b,0,none⟩),.agg #[.int .i64 (kind:Int),.int .i64 draw,m0,m1,m2,m3,m4,m5,m6,m7,m8,m9,k12,k13,k14,k15]] w fun e w'=>(∃ r,e=.returned (.tuple #[.agg r,.int .i64 err])∧r=#[.int .i64 0,.int .i64 0,.bool false,.int .i64 0,.slice none 0 0,.slice none 0 0,.int .i64 0,.slice none 0 0,.int .i64 0,.int .i64 0,.int .i64 0,.int .i64 0])∧∃ F',IdleAt w' F' b cf p∧Chg F w w'∧(∀ i,F i→F' i)∧(∀ i,F' i→F i∨w.heap.size≤i):=by
 obtain ⟨s,c,hN,hR,hm1,hm2,hm3,hm4⟩:=h
 refine (StepG_err b s c kind draw err f m0 m1 m2 m3 m4 m5 m6 m7 m8 m9 k12 k13 k14 k15 F (fun s' c'=>Rel cf s'.draw s' c' p∧c'.msgs=[]∧c'.mA=none∧c'.mn=0∧c'.mc=0) w hN herr hkind hact heg ⟨hm1,hm2,hm3,hm4⟩ ?_).mono ?_
 ·rintro W F0 c0 h1 ⟨z,rfl⟩ h2 h3
  refine (hh W F0 (IdleAt.node hR hm1 h1) h2 h3).mono ?_
  rintro e w' ⟨rfl,hb⟩
  exact ⟨rfl,_,_,F0,fun _=>False,h1.below hb,⟨⟨hR.id,hR.cfg,hR.hard,hR.zero,hR.commit,hR.role,hR.time,rfl,hR.peers,hR.log,hR.lead,hR.gr,hR.rf,rfl⟩,hm1,hm2,hm3,hm4⟩,Chg.ofBelow hb,fun _ h=>h,fun _ h=>.inl h,fun i hi=>hi.elim⟩
 ·rintro e w' ⟨rfl,s',c',F',G',hN',⟨hR',k1,k2,k3,k4⟩,hC,h1,h2⟩
  have e1:c'.hush=c':=by
   cases c'
   simp only at k1 k2 k3 k4
   subst k1 k2 k3 k4
   rfl
  have hN2:=hN'.hush (w':=w') (fun _ _ _ _=>rfl) (Nat.le_refl _) (by rw [e1];exact hN'.blk)
  rw [e1] at hN2
  exact ⟨⟨_,rfl,rfl⟩,F',⟨s',c',hN2,hR',k1,k2,k3,k4⟩,hC,h1,h2⟩
end
end Go.Proofs.YtocogcgnahbpkaaGreat
