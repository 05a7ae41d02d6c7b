import Derived.Test.YtocogcgnahbpkaaGreatC12
import Derived.Test.YtocogcgnahbpkaaGreatC25
namespace Go.Proofs.YtocogcgnahbpkaaGreat
open Go.RowKit
section
variable {P:Program} {ops:Array Oper} {Q:Exit→Act→World→Prop} {md:Region.Mode} {S:World→Prop} {oi:Oper} {fuel:Nat} {listed l':Array Bool} {a a':Act} {w:World}
theorem tkG180 (i:Nat) (v:Value) (h:wpAnyH P md ops Q S fuel l' a' w) (hh:Tk ops Q md S oi listed l' a a' w i v:=by exact tkm) (hw:Region.wanted oi (yielded ops a.tmps)=true:=by rfl) (hv:∀ w,S w→(execOp a.eval oi).run P w=.ok (.value v) w:=by
  intro w hSw;obtain ⟨hS1,hS2,hS3⟩:=hSw;obtain ⟨d0,d1,d2,d3,d4,d5,d6,d7,d8,d9⟩:=hS1.d;have hlk:=look_nat hS3 m.src HSRC.out HMEM.out;rw [HKK.out] at hlk;push_cast at hlk;go_simp):wpAnyH P md ops Q S (fuel+1) listed a w:=tk i v hv h hh hw
theorem tkG181 (i:Nat) (v:Value) (h:wpAnyH P md ops Q S fuel l' a' w) (hh:Tk ops Q md S oi listed l' a a' w i v:=by exact tkm) (hw:Region.wanted oi (yielded ops a.tmps)=true:=by rfl) (hv:∀ w,S w→(execOp a.eval oi).run P w=.ok (.value v) w:=by
  intro w hSw;obtain ⟨hS1,hS2,hS3,hS4⟩:=hSw;obtain ⟨d0,d1,d2,d3,d4,d5,d6,d7,d8,d9⟩:=hS1.d;have hlk:=look_nat hS4 m.src HSRC.out HMEM.out;go_simp):wpAnyH P md ops Q S (fuel+1) listed a w:=tk i v hv h hh hw
theorem tkG182 (i:Nat) (v:Value) (h:wpAnyH P md ops Q S fuel l' a' w) (hh:Tk ops Q md S oi listed l' a a' w i v:=by exact tkm) (hw:Region.wanted oi (yielded ops a.tmps)=true:=by rfl) (hv:∀ w,S w→(execOp a.eval oi).run P w=.ok (.value v) w:=by
  intro w hSw;obtain ⟨hS1,hS2,hS3⟩:=hSw;obtain ⟨d0,d1,d2,d3,d4,d5,d6,d7,d8,d9⟩:=hS1.d;have hlk:=look_nat hS3 m.src HSRC.out HMEM.out;rw [←HT.out] at hlk;go_simp):wpAnyH P md ops Q S (fuel+1) listed a w:=tk i v hv h hh hw
theorem tkG183 (i:Nat) (v:Value) (h:wpAnyH P md ops Q S fuel l' a' w) (hh:Tk ops Q md S oi listed l' a a' w i v:=by exact tkm) (hw:Region.wanted oi (yielded ops a.tmps)=true:=by rfl) (hv:∀ w,S w→(execOp a.eval oi).run P w=.ok (.value v) w:=by
  intro w hSw;obtain ⟨hS1,hS2,hS3⟩:=hSw;obtain ⟨d0,d1,d2,d3,d4,d5,d6,d7,d8,d9⟩:=hS1.d;go_simp):wpAnyH P md ops Q S (fuel+1) listed a w:=tk i v hv h hh hw
theorem tkG184 (i:Nat) (v:Value) (h:wpAnyH P md ops Q S fuel l' a' w) (hh:Tk ops Q md S oi listed l' a a' w i v:=by exact tkm) (hw:Region.wanted oi (yielded ops a.tmps)=true:=by rfl) (hv:∀ w,S w→(execOp a.eval oi).run P w=.ok (.value v) w:=by
  intro w hSw;obtain ⟨hS2,hS3⟩:=hSw;have hlk:=look_nat hS3 m.src HSRC.out HMEM.out;rw [HU.out] at hlk;push_cast at hlk;go_simp):wpAnyH P md ops Q S (fuel+1) listed a w:=tk i v hv h hh hw
end
section
variable {w w1 w2:World} {F G:Nat→Prop} {b:Nat} {cf:Rf.Cfg} {draw:Int} {l0:List Rf.Ent} {p:Rf.Nd} {ms:List Rf.Msg}
set_option maxRecDepth 100000 in
set_option maxHeartbeats 4000000 in
theorem appendReply_any (h:NodeAt w F G b cf draw l0 p ms) (hf:Fits cf p) (hml:ms.length≤400) (m:Rf.Msg) (A:Option Addr) (n c:Nat) (hsrc:m.src∈Rf.others cf p.id) (hnx:p.role=4→∀ q∈Rf.others cf p.id,1≤p.nx q∧p.nx q≤p.log.length+1) (hmt:p.role=4→∀ q∈Rf.others cf p.id,p.mt q≤p.log.length)
  (hidx:p.role=4→m.rej=false→m.idx≤p.log.length) (hih:m.idx≤1099511627776∧m.hint≤1099511627776) :
  Calls Tryz.prog 145 #[.pointer (some ⟨b,0,none⟩),msgV (mrOf m A n c)] w fun e w'=>e=.returned (.tuple #[])∧After w w' F G b cf draw l0 (Rf.appendReply cf m p).1 (ms++(Rf.appendReply cf m p).2):=by
 rw [msgV_eq]
 have HND:=ld (h.below (below_one w (boxO m A n c)))
 have HBX:=ld (BoxAt.made w m A n c)
 have HGR:=ld ((Grew.refl (w:=w) (F:=F) (G:=G)).below (below_one w (boxO m A n c)))
 have HF:=ld hf
 have HML:=ld hml
 obtain ⟨z,hz⟩:∃ z,z=w.heap.size:=⟨_,rfl⟩
 have HFZ:Hid (¬ (F z∨G z)):=ld (BoxAt.fresh h hz)
 rw [←hz] at HBX
 have hbl:b<(w.alloc (boxO m A n c)).heap.size:=HND.out.lt
 have HSRC:Hid (okI (m.src:Int)):=ld (by have:=hf.n;have:=others_le hsrc;unfold okI;omega)
 have HMEM:=ld hsrc
 have hs1:=(others_le hsrc).1
 have HNX:=ld hnx
 have HMT:=ld hmt
 have HIX:=ld hidx
 have hi1:(m.idx:Int)≤1099511627776:=by omega
 have hi2:(m.hint:Int)≤1099511627776:=by omega
 have z1:((0:Int)==(m.src:Int))=false:=by rw [beq_eq_false_iff_ne];omega
 have z2:(0==m.src)=false:=by rw [beq_eq_false_iff_ne];omega
 have z3:¬ m.src=0:=by omega
 clear h hf hml hsrc hnx hmt hidx hih
 by_cases q1:p.role=4
 ·have a1:((p.role:Int) != 4)=false:=by rw [bne_eq_false_iff_eq];omega
  have HQ:=ld q1
  clear q1
  rcases Bool.eq_false_or_eq_true m.rej with hrej | hrej
  ·have HREJ:=ld hrej
   clear hrej
   go_enter Tryz.func145,Tryz.ntmps145
   go_upto_region 1 with (fail)
   rw [←hz,show w.alloc (.cells #[.int .i64 m.kind,.int .i64 m.src,.int .i64 m.dst,.int .i64 m.term,.int .i64 m.idx,.int .i64 m.lt,.int .i64 m.commit,.slice A n c,.bool m.rej,.int .i64 m.hint] 59)=w.alloc (boxO m A n c) from rfl]
   generalize w.alloc (boxO m A n c)=W at HND HGR HBX ⊢
   clear hz
   have c12:=HND.out.c12
   obtain ⟨d0,d1,d2,d3,d4,d5,d6,d7,d8,d9⟩:=HBX.out.d
   clear d0 d2 d3 d4 d5 d6 d7 d8 d9
   obtain ⟨m1,l1,c18,hM1,hl1,hmb1,hput1⟩:=HND.out.hd18' HQ.out
   obtain ⟨V1,hrun1,hN1,hg1,hz1⟩:=hM1.put KI Tryz.underlying53 m.src HSRC.out ()
   have BX1:Hid (BoxAt V1 z m A n c):=ld ((hg1.block z HBX.out.lt (fun e=>HFZ.out (.inl (by injection e with e;rw [e];exact hmb1.1)))).trans HBX.out)
   have hNG1:=hput1 V1 _ _ hN1 (kput_keys hl1 m.src) hg1
   have ND1:Hid (NodeAt V1 F G b cf draw l0 { p with hd:=Rf.put p.hd m.src } ms):=ld hNG1.1
   have GR1:=ld (HGR.out.trans hNG1.2)
   obtain ⟨e0,e1,e2,e3,e4,e5,e6,e7,e8,e9⟩:=BX1.out.d
   clear e0 e1 e2 e3 e4 e5 e6 e7 e9 hM1 hl1 hput1 hN1 hg1 hz1 hNG1
   rw [HREJ.out] at e8
   go_wp2_with (fail)
   clear hrun1 c12 d1 c18 hmb1 e8 HND HGR HBX
   obtain ⟨m2,c17,hM2,hmb2,hput2⟩:=ND1.out.nx17 HQ.out
   have hM2':MI V1 m2 ((Rf.others cf p.id).map fun (q:Nat)=>((q:Int),((p.nx q:Nat):Int))):=hM2
   obtain ⟨k,hk⟩:∃ k,p.nx m.src=k+1:=⟨p.nx m.src-1,by have:=HNX.out HQ.out m.src HMEM.out;omega⟩
   have hkk:k≤65536:=by have:=HNX.out HQ.out m.src HMEM.out;have:=HF.out.fin;omega
   have HKK:=ld hk
   have W1:IntKind.i64.wrap (k:Int)=(k:Int):=IntWalk.i64_in _ (by omega)
   have BXD:Hid (BoxAt V1.drew z m A n c):=ld BX1.out
   have hMd:MI V1.drew m2 ((Rf.others cf p.id).map fun (q:Nat)=>((q:Int),((p.nx q:Nat):Int))):=hM2'.same rfl
   have c17d:V1.drew.cell? ⟨b,17,none⟩=some (.map (some m2)):=c17
   clear hk hM2 hM2' hput2 hmb2
   by_cases hi:m.idx=k
   ·have b1:((m.idx:Int)==(k:Int))=true:=by rw [beq_iff_eq];omega
    have b2:(m.idx==k)=true:=by rw [beq_iff_eq];omega
    have HI:=ld hi
    clear hi
    have HE:Hid (Rf.appendReply cf m p=({ p with hd:=Rf.put p.hd m.src,nx:=Rf.upd p.nx m.src (min (max (p.mt m.src) m.hint+1) (p.log.length+1)) },[Rf.app cf ({ p with hd:=Rf.put p.hd m.src,nx:=Rf.upd p.nx m.src (min (max (p.mt m.src) m.hint+1) (p.log.length+1)) }) m.src])):=ld (by
     unfold Rf.appendReply
     rw [if_neg (fun h=>h HQ.out)]
     simp only
     rw [if_pos HREJ.out,if_pos (by rw [HKK.out];have:=HI.out;omega)]
     rfl)
    refine wp_region_held_drew (S:=fun W:World=>BoxAt W z m A n c∧W.cell? ⟨b,17,none⟩=some (.map (some m2))∧MI W m2 ((Rf.others cf p.id).map fun (q:Nat)=>((q:Int),((p.nx q:Nat):Int)))) (by kernel_rfl) ⟨BXD.out,c17d,hMd⟩ (fun hHeld=>?_)
    refine tkG180 0 (.pointer (some ⟨z,4,none⟩)) ?_
    refine tkG180 1 (.int .i64 (m.idx:Int)) ?_
    refine tkG180 2 (.pointer (some ⟨b,0,none⟩)) ?_
    refine tkG180 3 (.pointer (some ⟨b,0,none⟩)) ?_
    refine tkG180 4 (.pointer (some ⟨b,17,none⟩)) ?_
    refine tkG180 5 (.map (some m2)) ?_
    refine tkG180 6 (.int .i64 (m.src:Int)) ?_
    refine tkG180 7 (.int .i64 ((k:Int)+1)) ?_
    refine tkG180 8 (.int .i64 (k:Int)) ?_
    refine tkG180 9 (.bool true) ?_
    refine don ?_
    clear hHeld hMd c17d BXD c17 W1 b1 b2
    have hW:V1.drew=V1.drewN 1:=rfl
    rw [hW]
    have ND2:=ld (ND1.out.drewN 1)
    have GR2:=ld (GR1.out.below (below_drewN' (Below.refl _ _) 1))
    have BX2:Hid (BoxAt (V1.drewN 1) z m A n c):=ld BX1.out
    clear ND1 GR1 BX1 hW
    generalize V1.drewN 1=V2 at ND2 GR2 BX2 ⊢
    obtain ⟨m3,c16,hM3,hmb3,_⟩:=ND2.out.mt16 HQ.out
    obtain ⟨m4,c17,hM4,hmb4,hput4⟩:=ND2.out.nx17 HQ.out
    have hM3':MI V2 m3 ((Rf.others cf p.id).map fun (q:Nat)=>((q:Int),((p.mt q:Nat):Int))):=hM3
    have BXD:Hid (BoxAt V2.drew z m A n c):=ld BX2.out
    have hMd:MI V2.drew m3 ((Rf.others cf p.id).map fun (q:Nat)=>((q:Int),((p.mt q:Nat):Int))):=hM3'.same rfl
    have HMD:Hid (∀ n,MI (V2.drewN n) m3 ((Rf.others cf p.id).map fun (q:Nat)=>((q:Int),((p.mt q:Nat):Int)))):=ld (fun n=>hM3'.same rfl)
    have c17d:V2.drew.cell? ⟨b,17,none⟩=some (.map (some m4)):=c17
    have c16d:V2.drew.cell? ⟨b,16,none⟩=some (.map (some m3)):=c16
    obtain ⟨mx,hmx⟩:∃ mx,mx=max (p.mt m.src) m.hint:=⟨_,rfl⟩
    have hmx1:(mx:Int)≤1099511627776:=by have:=HMT.out HQ.out m.src HMEM.out;have:=HF.out.fin;omega
    have HMX:=ld hmx
    obtain ⟨fn,hfn⟩:∃ fn,fn=p.log.length:=⟨_,rfl⟩
    have hfn1:(fn:Int)≤65536:=by have:=HF.out.fin;omega
    have HFN:=ld hfn
    have W2:IntKind.i64.wrap ((mx:Int)+1)=((mx+1:Nat):Int):=by rw [IntWalk.i64_in _ (by omega)];omega
    have W3:IntKind.i64.wrap ((fn:Int)+1)=((fn+1:Nat):Int):=by rw [IntWalk.i64_in _ (by omega)];omega
    have HW2:=ld W2
    have HW3:=ld W3
    have HB3:=ld hmb3
    have HM4:=ld (And.intro hM4 (And.intro hmb4 hput4))
    clear hmx hfn hM3 hM3' hM4 hmb4 hput4 hmb3
    go_wp2_with (fail)
    refine wp_region_held_drew (S:=fun W:World=>BoxAt W z m A n c∧W.cell? ⟨b,17,none⟩=some (.map (some m4))∧W.cell? ⟨b,16,none⟩=some (.map (some m3))∧MI W m3 ((Rf.others cf p.id).map fun (q:Nat)=>((q:Int),((p.mt q:Nat):Int)))) (by kernel_rfl) ⟨BXD.out,c17d,c16d,hMd⟩ (fun hHeld=>?_)
    refine tkG181 0 (.pointer (some ⟨b,0,none⟩)) ?_
    refine tkG181 1 (.pointer (some ⟨b,0,none⟩)) ?_
    refine tkG181 2 (.pointer (some ⟨b,17,none⟩)) ?_
    refine tkG181 3 (.map (some m4)) ?_
    refine tkG181 4 (.int .i64 (m.src:Int)) ?_
    refine tkG181 5 (.pointer (some ⟨b,0,none⟩)) ?_
    refine tkG181 6 (.pointer (some ⟨b,0,none⟩)) ?_
    refine tkG181 7 (.pointer (some ⟨b,16,none⟩)) ?_
    refine tkG181 8 (.map (some m3)) ?_
    refine tkG181 9 (.int .i64 (m.src:Int)) ?_
    refine tkG181 10 (.int .i64 ((p.mt m.src:Nat):Int)) ?_
    refine tkG181 11 (.pointer (some ⟨z,9,none⟩)) ?_
    refine tkG181 12 (.int .i64 (m.hint:Int)) ?_
    refine tk 13 (.int .i64 ((mx:Nat):Int)) ?_ ?_
    ·intro w hSw;rw [HMX.out];exact exec_maxN _ _ _ (by rfl) _ _ (by rfl) (by rfl) w
    refine tk 14 (.int .i64 ((mx+1:Nat):Int)) ?_ ?_
    ·intro w hSw;obtain ⟨hS1,hS2,hS3,hS4⟩:=hSw;clear hS4;have hw2:=HW2.out;rw [←hw2];go_simp
    refine tkG181 15 (.pointer (some ⟨b,0,none⟩)) ?_
    refine rdy 16 fun K hK=>?_
    go_simp
    refine (end_at (show NodeAt V2.drew F G b cf draw l0 { p with hd:=Rf.put p.hd m.src } ms from ND2.out.drewN 1) (show Fits cf { p with hd:=Rf.put p.hd m.src } from ⟨HF.out.n,HF.out.time,HF.out.batch,HF.out.id,HF.out.fin,HF.out.term,HF.out.commit⟩)).mono ?_
    rintro e w5 ⟨rfl,n5,rfl⟩
    rw [show (({ p with hd:=Rf.put p.hd m.src }:Rf.Nd).log.length)=fn from HFN.out.symm]
    have BX5:Hid (BoxAt (V2.drewN (1+n5)) z m A n c):=ld BX2.out
    have c17e:(V2.drewN (1+n5)).cell? ⟨b,17,none⟩=some (.map (some m4)):=c17
    have c16e:(V2.drewN (1+n5)).cell? ⟨b,16,none⟩=some (.map (some m3)):=c16
    go_wp2_with fail
    refine hks hK ?_ fun hHeld=>?_
    ·exact ⟨BX5.out,c17e,c16e,HMD.out _⟩
    clear hK K
    refine tk 17 (.int .i64 ((fn+1:Nat):Int)) ?_ ?_
    ·intro w hSw;obtain ⟨hS1,hS2,hS3,hS4⟩:=hSw;clear hS4;have hw3:=HW3.out;rw [←hw3];go_simp
    refine tk 18 (.int .i64 ((min (mx+1) (fn+1):Nat):Int)) ?_ ?_
    ·intro w hSw;exact exec_minN _ _ _ (by rfl) _ _ (by rfl) (by rfl) w
    obtain ⟨V3,hrun3,hN3,hg3,hz3⟩:=((HM4.out.1.same rfl:MI (V2.drewN (1+n5)) m4 _)).put KI Tryz.underlying39 m.src HSRC.out (((min (mx+1) (fn+1):Nat):Int))
    have hg3':V2.grownBy V3 (some m4):=⟨hg3.os,hg3.tape,hg3.output,hg3.size,hg3.block⟩
    have BX3:Hid (BoxAt V3 z m A n c):=ld ((hg3.block z BX5.out.lt (fun e=>HFZ.out (.inl (by injection e with e;rw [e];exact HM4.out.2.1.1)))).trans BX5.out)
    have c17f:V3.cell? ⟨b,17,none⟩=some (.map (some m4)):=hg3.cell c17e (fun e=>HM4.out.2.1.2 (by injection e with e;first | exact e | exact e.symm))
    have c16f:V3.cell? ⟨b,16,none⟩=some (.map (some m3)):=hg3.cell c16e (fun e=>HM4.out.2.1.2 (by injection e with e;first | exact e | exact e.symm))
    rw [kput_upd _ _ _ _ HMEM.out] at hN3
    have hNG:=HM4.out.2.2 V3 _ hN3 hg3'
    rw [HMX.out,HFN.out] at hNG
    have ND3:Hid (NodeAt V3 F G b cf draw l0 { p with hd:=Rf.put p.hd m.src,nx:=Rf.upd p.nx m.src (min (max (p.mt m.src) m.hint+1) (p.log.length+1)) } ms):=ld hNG.1
    have GR3:=ld (GR2.out.trans hNG.2)
    have hmm:MI V3 m3 ((Rf.others cf p.id).map fun (q:Nat)=>((q:Int),((p.mt q:Nat):Int))):=by
     obtain ⟨m3',c16',hM3',_⟩:=ND3.out.mt16 HQ.out
     rw [c16'] at c16f
     injection c16f with c16f;injection c16f with c16f;injection c16f with c16f
     rw [←c16f];exact hM3'
    clear hN3 hg3 hz3 hg3' hNG
    refine rdy 19 fun K hK=>?_
    refine step_mput (by rfl) 39 _ _ _ (by rfl) (.map (some m4)) (.int .i64 m.src) (.int .i64 ((min (mx+1) (fn+1):Nat):Int)) V3 (by rfl) (by rfl) (by rfl) hrun3 ?_
    refine hks hK ?_ fun hHeld=>?_
    ·exact ⟨BX3.out,c17f,c16f,hmm⟩
    clear hK K
    refine don ?_
    clear hHeld hmm c16f c17f c16e c17e c16d c17d c16 c17 hMd hrun3 BX5 BXD HMD W2 W3 HW2 HW3 HM4
    have hnx3:1≤({ p with hd:=Rf.put p.hd m.src,nx:=Rf.upd p.nx m.src (min (max (p.mt m.src) m.hint+1) (p.log.length+1)) }:Rf.Nd).nx m.src∧({ p with hd:=Rf.put p.hd m.src,nx:=Rf.upd p.nx m.src (min (max (p.mt m.src) m.hint+1) (p.log.length+1)) }:Rf.Nd).nx m.src≤p.log.length+1:=by
     show 1≤Rf.upd p.nx m.src _ m.src∧Rf.upd p.nx m.src _ m.src≤_
     unfold Rf.upd
     rw [if_pos rfl]
     omega
    have HN3:=ld hnx3
    clear hnx3
    go_wp2_with (fail)
    refine (app_any ND3.out ⟨HF.out.n,HF.out.time,HF.out.batch,HF.out.id,HF.out.fin,HF.out.term,HF.out.commit⟩ HQ.out HMEM.out HN3.out (by have:=HML.out;omega)).mono ?_
    rintro e w7 ⟨rfl,F7,G7,hn7,hg7⟩
    have HN7:=ld hn7
    have HG7:=ld (GR3.out.trans hg7)
    clear hn7 hg7
    have c20:=HN7.out.c20
    go_wp2
    go_end0
    rw [HE.out]
    exact ⟨rfl,F7,G7,HN7.out,HG7.out⟩
   ·have b1:((m.idx:Int)==(k:Int))=false:=by rw [beq_eq_false_iff_ne];omega
    have b2:(m.idx==k)=false:=by rw [beq_eq_false_iff_ne];omega
    have HI:=ld hi
    clear hi
    have HE:Hid (Rf.appendReply cf m p=({ p with hd:=Rf.put p.hd m.src },[])):=ld (by
     unfold Rf.appendReply
     rw [if_neg (fun h=>h HQ.out)]
     simp only
     rw [if_pos HREJ.out,if_neg (by rw [HKK.out];have:=HI.out;omega)])
    refine wp_region_held_drew (S:=fun W:World=>BoxAt W z m A n c∧W.cell? ⟨b,17,none⟩=some (.map (some m2))∧MI W m2 ((Rf.others cf p.id).map fun (q:Nat)=>((q:Int),((p.nx q:Nat):Int)))) (by kernel_rfl) ⟨BXD.out,c17d,hMd⟩ (fun hHeld=>?_)
    refine tkG180 0 (.pointer (some ⟨z,4,none⟩)) ?_
    refine tkG180 1 (.int .i64 (m.idx:Int)) ?_
    refine tkG180 2 (.pointer (some ⟨b,0,none⟩)) ?_
    refine tkG180 3 (.pointer (some ⟨b,0,none⟩)) ?_
    refine tkG180 4 (.pointer (some ⟨b,17,none⟩)) ?_
    refine tkG180 5 (.map (some m2)) ?_
    refine tkG180 6 (.int .i64 (m.src:Int)) ?_
    refine tkG180 7 (.int .i64 ((k:Int)+1)) ?_
    refine tkG180 8 (.int .i64 (k:Int)) ?_
    refine tkG180 9 (.bool false) ?_
    refine don ?_
    clear hHeld hMd c17d BXD c17 W1 b1 b2
    have hW:V1.drew=V1.drewN 1:=rfl
    rw [hW]
    have ND2:=ld (ND1.out.drewN 1)
    have GR2:=ld (GR1.out.below (below_drewN' (Below.refl _ _) 1))
    have BX2:Hid (BoxAt (V1.drewN 1) z m A n c):=ld BX1.out
    clear ND1 GR1 BX1 hW
    generalize V1.drewN 1=V2 at ND2 GR2 BX2 ⊢
    have c20:=ND2.out.c20
    go_wp2
    go_end0
    rw [HE.out,List.append_nil]
    exact ⟨rfl,F,G,ND2.out,GR2.out⟩
  ·have HREJ:=ld hrej
   clear hrej
   go_enter Tryz.func145,Tryz.ntmps145
   go_upto_region 1 with (fail)
   rw [←hz,show w.alloc (.cells #[.int .i64 m.kind,.int .i64 m.src,.int .i64 m.dst,.int .i64 m.term,.int .i64 m.idx,.int .i64 m.lt,.int .i64 m.commit,.slice A n c,.bool m.rej,.int .i64 m.hint] 59)=w.alloc (boxO m A n c) from rfl]
   generalize w.alloc (boxO m A n c)=W at HND HGR HBX ⊢
   clear hz
   have c12:=HND.out.c12
   obtain ⟨d0,d1,d2,d3,d4,d5,d6,d7,d8,d9⟩:=HBX.out.d
   clear d0 d2 d3 d4 d5 d6 d7 d8 d9
   obtain ⟨m1,l1,c18,hM1,hl1,hmb1,hput1⟩:=HND.out.hd18' HQ.out
   obtain ⟨V1,hrun1,hN1,hg1,hz1⟩:=hM1.put KI Tryz.underlying53 m.src HSRC.out ()
   have BX1:Hid (BoxAt V1 z m A n c):=ld ((hg1.block z HBX.out.lt (fun e=>HFZ.out (.inl (by injection e with e;rw [e];exact hmb1.1)))).trans HBX.out)
   have hNG1:=hput1 V1 _ _ hN1 (kput_keys hl1 m.src) hg1
   have ND1:Hid (NodeAt V1 F G b cf draw l0 { p with hd:=Rf.put p.hd m.src } ms):=ld hNG1.1
   have GR1:=ld (HGR.out.trans hNG1.2)
   obtain ⟨e0,e1,e2,e3,e4,e5,e6,e7,e8,e9⟩:=BX1.out.d
   clear e0 e1 e2 e3 e4 e5 e6 e7 e9 hM1 hl1 hput1 hN1 hg1 hz1 hNG1
   rw [HREJ.out] at e8
   go_wp2_with (fail)
   clear hrun1 c12 d1 c18 hmb1 e8 HND HGR HBX
   obtain ⟨m2,c16,hM2,hmb2,hput2⟩:=ND1.out.mt16 HQ.out
   have hM2':MI V1 m2 ((Rf.others cf p.id).map fun (q:Nat)=>((q:Int),((p.mt q:Nat):Int))):=hM2
   obtain ⟨t,ht⟩:∃ t,t=p.mt m.src:=⟨_,rfl⟩
   have HT:=ld ht
   have BXD:Hid (BoxAt V1.drew z m A n c):=ld BX1.out
   have hMd:MI V1.drew m2 ((Rf.others cf p.id).map fun (q:Nat)=>((q:Int),((p.mt q:Nat):Int))):=hM2'.same rfl
   have c16d:V1.drew.cell? ⟨b,16,none⟩=some (.map (some m2)):=c16
   clear ht hM2 hM2' hput2 hmb2
   by_cases hi:t<m.idx
   ·have b1:(t:Int)<(m.idx:Int):=by omega
    have b2:decide (t<m.idx)=true:=decide_eq_true hi
    have HI:=ld hi
    refine wp_region_held_drew (S:=fun W:World=>BoxAt W z m A n c∧W.cell? ⟨b,16,none⟩=some (.map (some m2))∧MI W m2 ((Rf.others cf p.id).map fun (q:Nat)=>((q:Int),((p.mt q:Nat):Int)))) (by kernel_rfl) ⟨BXD.out,c16d,hMd⟩ (fun hHeld=>?_)
    refine tkG182 0 (.pointer (some ⟨z,4,none⟩)) ?_
    refine tkG182 1 (.int .i64 (m.idx:Int)) ?_
    refine tkG182 2 (.pointer (some ⟨b,0,none⟩)) ?_
    refine tkG182 3 (.pointer (some ⟨b,0,none⟩)) ?_
    refine tkG182 4 (.pointer (some ⟨b,16,none⟩)) ?_
    refine tkG182 5 (.map (some m2)) ?_
    refine tkG182 6 (.int .i64 (m.src:Int)) ?_
    refine tkG182 7 (.int .i64 (t:Int)) ?_
    refine tkG182 8 (.bool true) ?_
    refine tkG182 9 (.bool true) ?_
    refine don ?_
    clear hHeld hMd c16d BXD c16 b1 b2 hi
    have hW:V1.drew=V1.drewN 1:=rfl
    rw [hW]
    have ND2:=ld (ND1.out.drewN 1)
    have GR2:=ld (GR1.out.below (below_drewN' (Below.refl _ _) 1))
    have BX2:Hid (BoxAt (V1.drewN 1) z m A n c):=ld BX1.out
    clear ND1 GR1 BX1 hW
    generalize V1.drewN 1=V2 at ND2 GR2 BX2 ⊢
    obtain ⟨m3,c16,hM3,hmb3,hput3⟩:=ND2.out.mt16 HQ.out
    obtain ⟨m4,c17,_,hmb4,_⟩:=ND2.out.nx17 HQ.out
    have BXD:Hid (BoxAt V2.drew z m A n c):=ld BX2.out
    have c16d:V2.drew.cell? ⟨b,16,none⟩=some (.map (some m3)):=c16
    have c17d:V2.drew.cell? ⟨b,17,none⟩=some (.map (some m4)):=c17
    have W4:IntKind.i64.wrap ((m.idx:Int)+1)=((m.idx+1:Nat):Int):=by rw [IntWalk.i64_in _ (by omega)];omega
    have HW4:=ld W4
    obtain ⟨v6,st6,V6,V7,hr6,hr7,hM7,hg6,hg7,hz6,hz7⟩:=MapG.entry KI (hM3.same rfl:MI V2.drew m3 _) Tryz.underlying39 m.src HSRC.out ((m.idx:Nat):Int) _ zero3
    have BX6:Hid (BoxAt V6 z m A n c):=ld ((hg6.block z BXD.out.lt (fun e=>HFZ.out (.inl (by injection e with e;rw [e];exact hmb3.1)))).trans BXD.out)
    have BX7:Hid (BoxAt V7 z m A n c):=ld ((hg7.block z BXD.out.lt (fun e=>HFZ.out (.inl (by injection e with e;rw [e];exact hmb3.1)))).trans BXD.out)
    have c166:V6.cell? ⟨b,16,none⟩=some (.map (some m3)):=hg6.cell c16d (fun e=>hmb3.2 (by injection e with e;first | exact e | exact e.symm))
    have c176:V6.cell? ⟨b,17,none⟩=some (.map (some m4)):=hg6.cell c17d (fun e=>hmb3.2 (by injection e with e;first | exact e | exact e.symm))
    have c167:V7.cell? ⟨b,16,none⟩=some (.map (some m3)):=hg7.cell c16d (fun e=>hmb3.2 (by injection e with e;first | exact e | exact e.symm))
    have c177:V7.cell? ⟨b,17,none⟩=some (.map (some m4)):=hg7.cell c17d (fun e=>hmb3.2 (by injection e with e;first | exact e | exact e.symm))
    have hg7':V2.grownBy V7 (some m3):=⟨hg7.os,hg7.tape,hg7.output,hg7.size,hg7.block⟩
    rw [kput_upd _ _ _ _ HMEM.out] at hM7
    have hNG7:=hput3 V7 _ hM7 hg7'
    have ND7:Hid (NodeAt V7 F G b cf draw l0 { p with hd:=Rf.put p.hd m.src,mt:=Rf.upd p.mt m.src m.idx } ms):=ld hNG7.1
    have GR7:=ld (GR2.out.trans hNG7.2)
    obtain ⟨m5,c175,hM5,hmb5,hput5⟩:=ND7.out.nx17 HQ.out
    have h54:m5=m4:=by rw [c177] at c175;injection c175 with e;injection e with e;injection e with e;exact e.symm
    subst h54
    obtain ⟨v8,st8,V8,V9,hr8,hr9,hM9,hg8,hg9,hz8,hz9⟩:=MapG.entry KI hM5 Tryz.underlying39 m.src HSRC.out ((m.idx+1:Nat):Int) _ zero3
    have BX8:Hid (BoxAt V8 z m A n c):=ld ((hg8.block z BX7.out.lt (fun e=>HFZ.out (.inl (by injection e with e;rw [e];exact hmb5.1)))).trans BX7.out)
    have BX9:Hid (BoxAt V9 z m A n c):=ld ((hg9.block z BX7.out.lt (fun e=>HFZ.out (.inl (by injection e with e;rw [e];exact hmb5.1)))).trans BX7.out)
    have c168:V8.cell? ⟨b,16,none⟩=some (.map (some m3)):=hg8.cell c167 (fun e=>hmb5.2 (by injection e with e;first | exact e | exact e.symm))
    have c178:V8.cell? ⟨b,17,none⟩=some (.map (some m5)):=hg8.cell c177 (fun e=>hmb5.2 (by injection e with e;first | exact e | exact e.symm))
    have c169:V9.cell? ⟨b,16,none⟩=some (.map (some m3)):=hg9.cell c167 (fun e=>hmb5.2 (by injection e with e;first | exact e | exact e.symm))
    have c179:V9.cell? ⟨b,17,none⟩=some (.map (some m5)):=hg9.cell c177 (fun e=>hmb5.2 (by injection e with e;first | exact e | exact e.symm))
    rw [kput_upd _ _ _ _ HMEM.out] at hM9
    have hNG9:=hput5 V9 _ hM9 hg9
    have ND9:Hid (NodeAt V9 F G b cf draw l0 { p with hd:=Rf.put p.hd m.src,mt:=Rf.upd p.mt m.src m.idx,nx:=Rf.upd p.nx m.src (m.idx+1) } ms):=ld hNG9.1
    have GR9:=ld (GR7.out.trans hNG9.2)
    have HR6:=ld hr6
    have HR7:=ld hr7
    have HR8:=ld hr8
    have HR9:=ld hr9
    clear hM3 hput3 hM7 hg6 hg7 hz6 hz7 hg7' hNG7 hM5 hput5 hM9 hg8 hg9 hz8 hz9 hNG9 hr6 hr7 hr8 hr9 hmb3 hmb4 hmb5 c175 ND7 GR7 ND2 GR2
    go_wp2_with (fail)
    refine wp_region_held_drew (S:=fun W:World=>BoxAt W z m A n c∧W.cell? ⟨b,16,none⟩=some (.map (some m3))∧W.cell? ⟨b,17,none⟩=some (.map (some m5))) (by kernel_rfl) ⟨BXD.out,c16d,c17d⟩ (fun hHeld=>?_)
    refine tkG183 0 (.pointer (some ⟨b,0,none⟩)) ?_
    refine tkG183 1 (.pointer (some ⟨b,0,none⟩)) ?_
    refine tkG183 2 (.pointer (some ⟨b,16,none⟩)) ?_
    refine tkG183 3 (.map (some m3)) ?_
    refine tkG183 4 (.int .i64 (m.src:Int)) ?_
    refine tkG183 5 (.pointer (some ⟨b,0,none⟩)) ?_
    refine tkG183 6 (.pointer (some ⟨b,0,none⟩)) ?_
    refine tkG183 7 (.pointer (some ⟨b,17,none⟩)) ?_
    refine tkG183 8 (.map (some m5)) ?_
    refine tkG183 9 (.int .i64 (m.src:Int)) ?_
    refine tkG183 10 (.pointer (some ⟨z,4,none⟩)) ?_
    refine tkG183 11 (.int .i64 (m.idx:Int)) ?_
    refine tkG183 12 (.pointer (some ⟨z,4,none⟩)) ?_
    refine tkG183 13 (.int .i64 (m.idx:Int)) ?_
    refine tk 14 (.int .i64 ((m.idx+1:Nat):Int)) ?_ ?_
    ·intro w hSw;have hw4:=HW4.out;rw [←hw4];go_simp
    refine rdy 15 fun K hK=>?_
    refine step_entry (by rfl) 39 _ _ (by rfl) (.map (some m3)) (.int .i64 m.src) _ V6 (by rfl) (by rfl) HR6.out ?_
    refine hks hK ?_ fun hHeld=>?_
    ·exact ⟨BX6.out,c166,c176⟩
    clear hK K
    refine tkG183 16 (.int .i64 st6) ?_
    refine rdy 17 fun K hK=>?_
    refine step_estore (by rfl) 39 _ _ _ (by rfl) (.map (some m3)) (.int .i64 st6) (.int .i64 m.idx) V7 (by rfl) (by rfl) (by rfl) HR7.out ?_
    refine hks hK ?_ fun hHeld=>?_
    ·exact ⟨BX7.out,c167,c177⟩
    clear hK K
    refine rdy 18 fun K hK=>?_
    refine step_entry (by rfl) 39 _ _ (by rfl) (.map (some m5)) (.int .i64 m.src) _ V8 (by rfl) (by rfl) HR8.out ?_
    refine hks hK ?_ fun hHeld=>?_
    ·exact ⟨BX8.out,c168,c178⟩
    clear hK K
    refine tkG183 19 (.int .i64 st8) ?_
    refine rdy 20 fun K hK=>?_
    refine step_estore (by rfl) 39 _ _ _ (by rfl) (.map (some m5)) (.int .i64 st8) (.int .i64 ((m.idx+1:Nat):Int)) V9 (by rfl) (by rfl) (by rfl) HR9.out ?_
    refine hks hK ?_ fun hHeld=>?_
    ·exact ⟨BX9.out,c169,c179⟩
    clear hK K
    refine don ?_
    clear hHeld c166 c176 c167 c177 c168 c178 c169 c179 c16d c17d c16 c17 BXD BX6 BX7 BX8 HR6 HR7 HR8 HR9 W4 HW4
    have hnxq:∀ q∈Rf.others cf p.id,1≤({ p with hd:=Rf.put p.hd m.src,mt:=Rf.upd p.mt m.src m.idx,nx:=Rf.upd p.nx m.src (m.idx+1) }:Rf.Nd).nx q∧({ p with hd:=Rf.put p.hd m.src,mt:=Rf.upd p.mt m.src m.idx,nx:=Rf.upd p.nx m.src (m.idx+1) }:Rf.Nd).nx q≤p.log.length+1:=by
     intro q hq
     show 1≤Rf.upd p.nx m.src _ q∧Rf.upd p.nx m.src _ q≤_
     unfold Rf.upd
     have h1:=HNX.out HQ.out q hq
     have h2:=HIX.out HQ.out HREJ.out
     split <;> omega
    have HN9:=ld hnxq
    clear hnxq
    have HF9:Hid (Fits cf { p with hd:=Rf.put p.hd m.src,mt:=Rf.upd p.mt m.src m.idx,nx:=Rf.upd p.nx m.src (m.idx+1) }):=ld ⟨HF.out.n,HF.out.time,HF.out.batch,HF.out.id,HF.out.fin,HF.out.term,HF.out.commit⟩
    have HEQ:Hid (Rf.appendReply cf m p=if p.commit<(Rf.count cf { p with hd:=Rf.put p.hd m.src,mt:=Rf.upd p.mt m.src m.idx,nx:=Rf.upd p.nx m.src (m.idx+1) }).commit then (Rf.count cf { p with hd:=Rf.put p.hd m.src,mt:=Rf.upd p.mt m.src m.idx,nx:=Rf.upd p.nx m.src (m.idx+1) },Rf.apps cf (Rf.count cf { p with hd:=Rf.put p.hd m.src,mt:=Rf.upd p.mt m.src m.idx,nx:=Rf.upd p.nx m.src (m.idx+1) })) else if m.idx+1≤p.log.length then (Rf.count cf { p with hd:=Rf.put p.hd m.src,mt:=Rf.upd p.mt m.src m.idx,nx:=Rf.upd p.nx m.src (m.idx+1) },[Rf.app cf (Rf.count cf { p with hd:=Rf.put p.hd m.src,mt:=Rf.upd p.mt m.src m.idx,nx:=Rf.upd p.nx m.src (m.idx+1) }) m.src]) else (Rf.count cf { p with hd:=Rf.put p.hd m.src,mt:=Rf.upd p.mt m.src m.idx,nx:=Rf.upd p.nx m.src (m.idx+1) },[])):=ld (by
     unfold Rf.appendReply
     rw [if_neg (fun h=>h HQ.out)]
     simp only
     rw [if_neg (by rw [HREJ.out];decide),if_pos (by rw [←HT.out];exact HI.out)]
     have e:(Rf.count cf { p with hd:=Rf.put p.hd m.src,mt:=Rf.upd p.mt m.src m.idx,nx:=Rf.upd p.nx m.src (m.idx+1) }).nx m.src=m.idx+1:=by show Rf.upd p.nx m.src _ m.src=_;unfold Rf.upd;rw [if_pos rfl]
     show (if p.commit<(Rf.count cf { p with hd:=Rf.put p.hd m.src,mt:=Rf.upd p.mt m.src m.idx,nx:=Rf.upd p.nx m.src (m.idx+1) }).commit then _ else if (Rf.count cf { p with hd:=Rf.put p.hd m.src,mt:=Rf.upd p.mt m.src m.idx,nx:=Rf.upd p.nx m.src (m.idx+1) }).nx m.src≤p.log.length then _ else _)=_
     rw [e])
    have hcid:(Rf.count cf { p with hd:=Rf.put p.hd m.src,mt:=Rf.upd p.mt m.src m.idx,nx:=Rf.upd p.nx m.src (m.idx+1) }).id=p.id∧(Rf.count cf { p with hd:=Rf.put p.hd m.src,mt:=Rf.upd p.mt m.src m.idx,nx:=Rf.upd p.nx m.src (m.idx+1) }).nx=Rf.upd p.nx m.src (m.idx+1)∧(Rf.count cf { p with hd:=Rf.put p.hd m.src,mt:=Rf.upd p.mt m.src m.idx,nx:=Rf.upd p.nx m.src (m.idx+1) }).role=4∧(Rf.count cf { p with hd:=Rf.put p.hd m.src,mt:=Rf.upd p.mt m.src m.idx,nx:=Rf.upd p.nx m.src (m.idx+1) }).log=p.log:=⟨rfl,rfl,HQ.out,rfl⟩
    have HCID:=ld hcid
    clear hcid
    have c11:V9.cell? ⟨b,11,none⟩=some (.int .i64 (p.commit:Int)):=ND9.out.c11
    go_wp2_with (fail)
    refine (count_at ND9.out HF9.out HQ.out).mono ?_
    rintro e w5 ⟨rfl,F5,G5,hn5,hg5⟩
    have HFC:=ld (Rf.count_fits HF9.out)
    have BX5:=ld (BX9.out.chg hg5.chg HFZ.out)
    have ND5:=ld hn5
    have GR5:=ld (GR9.out.trans hg5)
    clear hn5 hg5 ND9 GR9 BX9 c11 HF9
    generalize Rf.count cf { p with hd:=Rf.put p.hd m.src,mt:=Rf.upd p.mt m.src m.idx,nx:=Rf.upd p.nx m.src (m.idx+1) }=p5 at HN9 HEQ HCID HFC ND5
    have c11:=ND5.out.c11
    by_cases hc:p.commit<p5.commit
    ·have k1:(p.commit:Int)<(p5.commit:Int):=by omega
     have HE:=HEQ.out
     rw [if_pos hc] at HE
     have HE:=ld HE
     go_wp2_with (fail)
     refine (apps_any ND5.out HFC.out HCID.out.2.2.1 (fun q hq=>?_) (by have:=HML.out;omega)).mono ?_
     ·have:=HN9.out q (by rw [←HCID.out.1];exact hq)
      rw [HCID.out.2.1,HCID.out.2.2.2];exact this
     rintro e w7 ⟨rfl,F7,G7,hn7,hg7⟩
     have HN7:=ld hn7
     have HG7:=ld (GR5.out.trans hg7)
     clear hn7 hg7 c11 k1
     have c20:=HN7.out.c20
     go_wp2
     go_end0
     rw [HE.out]
     exact ⟨rfl,F7,G7,HN7.out,HG7.out⟩
    ·have k1:¬ (p.commit:Int)<(p5.commit:Int):=by omega
     have HE1:=HEQ.out
     rw [if_neg hc] at HE1
     have HE1:=ld HE1
     clear HEQ
     go_wp2_with (fail)
     obtain ⟨m6,c17,hM6,hmb6,_⟩:=ND5.out.nx17 HCID.out.2.2.1
     rw [HCID.out.1,HCID.out.2.1] at hM6
     have hMd:MI w5.drew m6 ((Rf.others cf p.id).map fun (q:Nat)=>((q:Int),((Rf.upd p.nx m.src (m.idx+1) q:Nat):Int))):=hM6.same rfl
     have HMD:Hid (∀ n,MI (w5.drewN n) m6 ((Rf.others cf p.id).map fun (q:Nat)=>((q:Int),((Rf.upd p.nx m.src (m.idx+1) q:Nat):Int)))):=ld (fun n=>hM6.same rfl)
     have c17d:w5.drew.cell? ⟨b,17,none⟩=some (.map (some m6)):=c17
     have HU:Hid (Rf.upd p.nx m.src (m.idx+1) m.src=m.idx+1):=ld (by unfold Rf.upd;rw [if_pos rfl])
     clear hM6 hmb6 c11 k1 hc
     by_cases hle:m.idx+1≤p.log.length
     ·have k2:(m.idx:Int)+1≤(p.log.length:Int):=by omega
      have k3:decide (m.idx+1≤p.log.length)=true:=decide_eq_true hle
      have HE:=HE1.out
      rw [if_pos hle] at HE
      have HE:=ld HE
      refine wp_region_held_drew (S:=fun W:World=>W.cell? ⟨b,17,none⟩=some (.map (some m6))∧MI W m6 ((Rf.others cf p.id).map fun (q:Nat)=>((q:Int),((Rf.upd p.nx m.src (m.idx+1) q:Nat):Int)))) (by kernel_rfl) ⟨c17d,hMd⟩ (fun hHeld=>?_)
      refine tkG184 0 (.pointer (some ⟨b,0,none⟩)) ?_
      refine tkG184 1 (.pointer (some ⟨b,0,none⟩)) ?_
      refine tkG184 2 (.pointer (some ⟨b,17,none⟩)) ?_
      refine tkG184 3 (.map (some m6)) ?_
      refine tkG184 4 (.int .i64 (m.src:Int)) ?_
      refine tkG184 5 (.int .i64 ((m.idx:Int)+1)) ?_
      refine tkG184 6 (.pointer (some ⟨b,0,none⟩)) ?_
      refine rdy 7 fun K hK=>?_
      go_simp
      refine (end_at (show NodeAt w5.drew F5 G5 b cf draw l0 p5 ms from ND5.out.drewN 1) HFC.out).mono ?_
      rintro e w6 ⟨rfl,n6,rfl⟩
      rw [HCID.out.2.2.2]
      have c17e:(w5.drewN (1+n6)).cell? ⟨b,17,none⟩=some (.map (some m6)):=c17
      go_wp2_with fail
      refine hks hK ?_ fun hHeld=>?_
      ·exact ⟨c17e,HMD.out _⟩
      clear hK K
      refine tkG184 8 (.bool true) ?_
      refine don ?_
      clear hHeld c17e c17d c17 hMd HMD k2 k3 hle
      have ND6:=ld (ND5.out.drewN (1+n6))
      have GR6:=ld (GR5.out.below (below_drewN' (Below.refl _ _) (1+n6)))
      clear ND5 GR5 BX5
      generalize w5.drewN (1+n6)=V10 at ND6 GR6 ⊢
      go_wp2_with (fail)
      refine (app_any ND6.out HFC.out HCID.out.2.2.1 (by rw [HCID.out.1];exact HMEM.out) (by rw [HCID.out.2.1,HCID.out.2.2.2];exact HN9.out m.src HMEM.out) (by have:=HML.out;omega)).mono ?_
      rintro e w7 ⟨rfl,F7,G7,hn7,hg7⟩
      have HN7:=ld hn7
      have HG7:=ld (GR6.out.trans hg7)
      clear hn7 hg7
      have c20:=HN7.out.c20
      go_wp2
      go_end0
      rw [HE.out]
      exact ⟨rfl,F7,G7,HN7.out,HG7.out⟩
     ·have k2:¬ (m.idx:Int)+1≤(p.log.length:Int):=by omega
      have k3:decide (m.idx+1≤p.log.length)=false:=decide_eq_false hle
      have HE:=HE1.out
      rw [if_neg hle] at HE
      have HE:=ld HE
      refine wp_region_held_drew (S:=fun W:World=>W.cell? ⟨b,17,none⟩=some (.map (some m6))∧MI W m6 ((Rf.others cf p.id).map fun (q:Nat)=>((q:Int),((Rf.upd p.nx m.src (m.idx+1) q:Nat):Int)))) (by kernel_rfl) ⟨c17d,hMd⟩ (fun hHeld=>?_)
      refine tkG184 0 (.pointer (some ⟨b,0,none⟩)) ?_
      refine tkG184 1 (.pointer (some ⟨b,0,none⟩)) ?_
      refine tkG184 2 (.pointer (some ⟨b,17,none⟩)) ?_
      refine tkG184 3 (.map (some m6)) ?_
      refine tkG184 4 (.int .i64 (m.src:Int)) ?_
      refine tkG184 5 (.int .i64 ((m.idx:Int)+1)) ?_
      refine tkG184 6 (.pointer (some ⟨b,0,none⟩)) ?_
      refine rdy 7 fun K hK=>?_
      go_simp
      refine (end_at (show NodeAt w5.drew F5 G5 b cf draw l0 p5 ms from ND5.out.drewN 1) HFC.out).mono ?_
      rintro e w6 ⟨rfl,n6,rfl⟩
      rw [HCID.out.2.2.2]
      have c17e:(w5.drewN (1+n6)).cell? ⟨b,17,none⟩=some (.map (some m6)):=c17
      go_wp2_with fail
      refine hks hK ?_ fun hHeld=>?_
      ·exact ⟨c17e,HMD.out _⟩
      clear hK K
      refine tkG184 8 (.bool false) ?_
      refine don ?_
      clear hHeld c17e c17d c17 hMd HMD k2 k3 hle
      have ND6:=ld (ND5.out.drewN (1+n6))
      have GR6:=ld (GR5.out.below (below_drewN' (Below.refl _ _) (1+n6)))
      clear ND5 GR5 BX5
      generalize w5.drewN (1+n6)=V10 at ND6 GR6 ⊢
      have c20:=ND6.out.c20
      go_wp2
      go_end0
      rw [HE.out,List.append_nil]
      exact ⟨rfl,F5,G5,ND6.out,GR6.out⟩
   ·have b1:¬ (t:Int)<(m.idx:Int):=by omega
    have b2:decide (t<m.idx)=false:=decide_eq_false hi
    have HI:=ld hi
    have HE:Hid (Rf.appendReply cf m p=({ p with hd:=Rf.put p.hd m.src },[])):=ld (by
     unfold Rf.appendReply
     rw [if_neg (fun h=>h HQ.out)]
     simp only
     rw [if_neg (by rw [HREJ.out];decide),if_neg (by rw [←HT.out];exact HI.out)])
    refine wp_region_held_drew (S:=fun W:World=>BoxAt W z m A n c∧W.cell? ⟨b,16,none⟩=some (.map (some m2))∧MI W m2 ((Rf.others cf p.id).map fun (q:Nat)=>((q:Int),((p.mt q:Nat):Int)))) (by kernel_rfl) ⟨BXD.out,c16d,hMd⟩ (fun hHeld=>?_)
    refine tkG182 0 (.pointer (some ⟨z,4,none⟩)) ?_
    refine tkG182 1 (.int .i64 (m.idx:Int)) ?_
    refine tkG182 2 (.pointer (some ⟨b,0,none⟩)) ?_
    refine tkG182 3 (.pointer (some ⟨b,0,none⟩)) ?_
    refine tkG182 4 (.pointer (some ⟨b,16,none⟩)) ?_
    refine tkG182 5 (.map (some m2)) ?_
    refine tkG182 6 (.int .i64 (m.src:Int)) ?_
    refine tkG182 7 (.int .i64 (t:Int)) ?_
    refine tkG182 8 (.bool false) ?_
    refine tkG182 9 (.bool false) ?_
    refine don ?_
    clear hHeld hMd c16d BXD c16 b1 b2 hi
    have hW:V1.drew=V1.drewN 1:=rfl
    rw [hW]
    have ND2:=ld (ND1.out.drewN 1)
    have GR2:=ld (GR1.out.below (below_drewN' (Below.refl _ _) 1))
    have BX2:Hid (BoxAt (V1.drewN 1) z m A n c):=ld BX1.out
    clear ND1 GR1 BX1 hW
    generalize V1.drewN 1=V2 at ND2 GR2 BX2 ⊢
    have c20:=ND2.out.c20
    go_wp2
    go_end0
    rw [HE.out,List.append_nil]
    exact ⟨rfl,F,G,ND2.out,GR2.out⟩
 ·have a1:((p.role:Int) != 4)=true:=by rw [bne_iff_ne];omega
  have HE:Hid (Rf.appendReply cf m p=(p,[])):=ld (by unfold Rf.appendReply;rw [if_pos q1])
  clear q1
  go_enter Tryz.func145,Tryz.ntmps145
  go_upto_region 1 with (fail)
  rw [←hz,show w.alloc (.cells #[.int .i64 m.kind,.int .i64 m.src,.int .i64 m.dst,.int .i64 m.term,.int .i64 m.idx,.int .i64 m.lt,.int .i64 m.commit,.slice A n c,.bool m.rej,.int .i64 m.hint] 59)=w.alloc (boxO m A n c) from rfl]
  generalize w.alloc (boxO m A n c)=W at HND HGR HBX ⊢
  clear hz
  have c12:=HND.out.c12
  go_wp2
  refine bodyPost_ret (results_none rfl _ _ _) rfl ?_
  rw [HE.out,List.append_nil]
  exact ⟨rfl,F,G,HND.out,HGR.out⟩
end
end Go.Proofs.YtocogcgnahbpkaaGreat
