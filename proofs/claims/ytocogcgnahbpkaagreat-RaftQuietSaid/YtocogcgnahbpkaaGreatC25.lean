import Derived.Test.YtocogcgnahbpkaaGreatC12
import Derived.Test.YtocogcgnahbpkaaGreatC24
namespace Go.Proofs.YtocogcgnahbpkaaGreat
open Go.RowKit
section
variable {P:Program} {ops:Array Oper} {Q:Exit→Act→World→Prop} {md:Region.Mode} {S:World→Prop} {oi:Oper} {fuel:Nat} {listed l':Array Bool} {a a':Act} {w:World}
theorem tkG150 (i:Nat) (v:Value) (h:wpAnyH P md ops Q S fuel l' a' w) (hh:Tk ops Q md S oi listed l' a a' w i v:=by exact tkm) (hw:Region.wanted oi (yielded ops a.tmps)=true:=by rfl) (hv:∀ w,S w→(execOp a.eval oi).run P w=.ok (.value v) w:=by
  intro w hSw;obtain ⟨hS1,hS2⟩:=hSw;obtain ⟨d0,d1,d2,d3,d4,d5,d6,d7,d8,d9⟩:=hS1.d;go_simp):wpAnyH P md ops Q S (fuel+1) listed a w:=tk i v hv h hh hw
end
section
variable {w w1 w2:World} {F G:Nat→Prop} {b:Nat} {cf:Rf.Cfg} {draw:Int} {l0:List Rf.Ent} {p:Rf.Nd} {ms:List Rf.Msg}
theorem NodeAt.gr21 (h:NodeAt w F G b cf draw l0 p ms) (h4:p.role=2∨p.role=3):∃ (m:Nat) (l:List (Int×Unit)),w.cell? ⟨b,21,none⟩=some (.map (some m))∧MB w m l∧l.map (·.1)=ints p.gr∧(F m∧m≠b) ∧
  ∀ w' (l':List (Int×Unit)) (gr':List Nat),MB w' m l'→l'.map (·.1)=ints gr'→w.grownBy w' (some m)→NodeAt w' F G b cf draw l0 { p with gr:=gr' } ms∧Grew w w' F G F G:=by
 obtain ⟨s,c,hN,h,h2⟩:=h
 obtain ⟨⟨d,e3⟩,h7⟩:=h.gr h4
 have hh:=hN.rest.gr
 rw [e3] at hh
 refine ⟨d,c.gr,by have:=nc21 hN.blk;rwa [e3] at this,hh.2,h7,⟨hh.1,hh.2.ne hN.blk⟩,fun w' l' gr' hM hl hg=>?_⟩
 refine ⟨⟨s,_,hN.put_gr e3 hM hg,⟨h.id,h.cfg,h.hard,h.zero,h.commit,h.role,h.time,h.draw,h.peers,h.log,h.lead,fun _=>⟨⟨d,e3⟩,hl⟩,h.rf,h.sn⟩,h2⟩,Grew.ofChg (Chg.refl.grown hg fun k hk=>.inl ?_) (fun _ h=>h) fun _ h=>.inl h⟩
 injection hk with hk
 rw [←hk];exact hh.1
theorem NodeAt.rf22 (h:NodeAt w F G b cf draw l0 p ms) (h4:p.role=3):∃ (m:Nat) (l:List (Int×Unit)),w.cell? ⟨b,22,none⟩=some (.map (some m))∧MB w m l∧l.map (·.1)=ints p.rf∧(F m∧m≠b) ∧
  ∀ w' (l':List (Int×Unit)) (gr':List Nat),MB w' m l'→l'.map (·.1)=ints gr'→w.grownBy w' (some m)→NodeAt w' F G b cf draw l0 { p with rf:=gr' } ms∧Grew w w' F G F G:=by
 obtain ⟨s,c,hN,h,h2⟩:=h
 obtain ⟨⟨d,e3⟩,h7⟩:=h.rf h4
 have hh:=hN.rest.rf
 rw [e3] at hh
 refine ⟨d,c.rf,by have:=nc22 hN.blk;rwa [e3] at this,hh.2,h7,⟨hh.1,hh.2.ne hN.blk⟩,fun w' l' gr' hM hl hg=>?_⟩
 refine ⟨⟨s,_,hN.put_rf e3 hM hg,⟨h.id,h.cfg,h.hard,h.zero,h.commit,h.role,h.time,h.draw,h.peers,h.log,h.lead,h.gr,fun _=>⟨⟨d,e3⟩,hl⟩,h.sn⟩,h2⟩,Grew.ofChg (Chg.refl.grown hg fun k hk=>.inl ?_) (fun _ h=>h) fun _ h=>.inl h⟩
 injection hk with hk
 rw [←hk];exact hh.1
theorem step_mput {P:Program} {w:World} {ops:Array Oper} {o:Oper} {a:Act} {K:Act→World→Prop} {Q:Exit→Act→World→Prop} {E:Prop} (hgd:o.guard=none) (t:TypeId) (m k x:Operand)
  (ho:o.op=.mapUpdate t m k x) (v1 v2 v3:Value) (w':World) (hv:a.eval m=v1) (hk:a.eval k=v2) (hx:a.eval x=v3) (hrun:(Instr.mapUpdate t v1 v2 v3).run P w=.ok () w')
  (h:K (a.put o.dst undef) w'):if Region.wanted o (yielded ops a.tmps)=true then Oper.wp P o a w K Q else E:=by
 have hw:Region.wanted o (yielded ops a.tmps)=true:=by simp [Region.wanted,hgd]
 rw [if_pos hw]
 unfold Oper.wp execOp
 simp only [ho,Sem.run_bind,Sem.run_pure,Result.andThen_ok,hv,hk,hx,hrun,Oper.upon]
 exact h
theorem step_del {P:Program} {w:World} {ops:Array Oper} {o:Oper} {a:Act} {K:Act→World→Prop} {Q:Exit→Act→World→Prop} {E:Prop} (hgd:o.guard=none) (m k:Operand) (t e:TypeId)
  (ho:o.op=.call { callee:=.builtin .delete,args:=#[m,k],argTypes:=#[t,e] }) (v1 v2 v':Value) (w':World) (hv:a.eval m=v1) (hk:a.eval k=v2) (hrun:(Builtin.delete_ #[t,e] o.type #[v1,v2]).run P w=.ok v' w')
  (h:K (a.put o.dst v') w'):if Region.wanted o (yielded ops a.tmps)=true then Oper.wp P o a w K Q else E:=by
 have hw:Region.wanted o (yielded ops a.tmps)=true:=by simp [Region.wanted,hgd]
 rw [if_pos hw]
 unfold Oper.wp execOp
 simp only [ho,resolve,invoke,builtin,Sem.run_bind,Sem.run_pure,Result.andThen_ok,List.map_toArray,List.map_cons,List.map_nil,hv,hk,hrun]
 exact h
theorem ints_mem' {l:List Nat} {x:Nat}:(x:Int)∈ints l↔x∈l:=by
 unfold ints
 rw [List.mem_map]
 exact ⟨fun ⟨k,hk,e⟩=>by rwa [show x=k by omega],fun h=>⟨x,h,rfl⟩⟩
theorem kput_keys {l:List (Int×Unit)} {g:List Nat} (h:l.map (·.1)=ints g) (x:Nat):(kput l (x:Int) ()).map (·.1)=ints (Rf.put g x):=by
 unfold kput Rf.put
 rw [h]
 by_cases hx:x∈g
 ·rw [if_pos (ints_mem'.2 hx),if_pos hx,←h,List.map_map]
  refine List.map_congr_left fun p _=>?_
  simp only [Function.comp]
  split
  ·rename_i e;exact e.symm
  ·rfl
 ·rw [if_neg (fun h=>hx (ints_mem'.1 h)),if_neg hx,List.map_append,h]
  simp [ints]
theorem kdel_keys {l:List (Int×Unit)} {g:List Nat} (h:l.map (·.1)=ints g) (x:Nat):(kdel l (x:Int)).map (·.1)=ints (g.filter (·≠x)):=by
 unfold kdel ints
 unfold ints at h
 have e:(l.filter fun p=>p.1≠(x:Int)).map (·.1)=(l.map (·.1)).filter (fun y=>y≠(x:Int)):=by
  rw [List.filter_map];rfl
 rw [e,h,List.filter_map]
 congr 1
 refine List.filter_congr fun y _=>?_
 simp
 omega
theorem ints_len (l:List Nat):(ints l).length=l.length:=by simp [ints]
theorem put_len (g:List Nat) (x:Nat):(Rf.put g x).length≤g.length+1:=by
 unfold Rf.put;split <;> simp
set_option maxRecDepth 100000 in
set_option maxHeartbeats 4000000 in
theorem preReply_any (h:NodeAt w F G b cf draw l0 p ms) (hf:Fits cf p) (hml:ms.length≤400) (m:Rf.Msg) (A:Option Addr) (n c:Nat) (hsrc:1≤m.src∧m.src≤cf.n) (hlt:p.log.length<65536) (htm:p.term<1000000) (hgr:p.gr.length≤900) :
  Calls Tryz.prog 141 #[.pointer (some ⟨b,0,none⟩),msgV (mrOf m A n c)] w fun e w'=>e=.returned (.tuple #[])∧After w w' F G b cf draw l0 (Rf.preReply cf draw m p).1 (ms++(Rf.preReply cf draw m p).2):=by
 rw [msgV_eq]
 have HND:=ld (h.below (below_one w (boxO m A n c)))
 have HBX:=ld (BoxAt.made w m A n c)
 have HGR:=ld ((Grew.refl (w:=w) (F:=F) (G:=G)).below (below_one w (boxO m A n c)))
 have HF:=ld hf
 have HML:=ld hml
 obtain ⟨z,hz⟩:∃ z,z=w.heap.size:=⟨_,rfl⟩
 have HFZ:Hid (¬ (F z∨G z)):=ld (BoxAt.fresh h hz)
 rw [←hz] at HBX
 have hbl:b<(w.alloc (boxO m A n c)).heap.size:=HND.out.lt
 have HSRC:Hid (okI (m.src:Int)):=ld (by have:=hf.n;unfold okI;omega)
 have HLT:=ld hlt
 have HTM:=ld htm
 have HGL:=ld hgr
 clear h hf hml hsrc hlt htm hgr
 by_cases q1:p.role=2
 ·have a1:((p.role:Int) != 2)=false:=by rw [bne_eq_false_iff_eq];omega
  rcases Bool.eq_false_or_eq_true m.rej with hrej | hrej
  ·have HREJ:=ld hrej
   clear hrej
   have HE:Hid (Rf.preReply cf draw m p=(p,[])):=ld (by unfold Rf.preReply;rw [if_pos (.inr (.inl HREJ.out))])
   clear q1
   go_enter Tryz.func141,Tryz.ntmps141
   go_upto_region 1 with (fail)
   rw [←hz,show w.alloc (.cells #[.int .i64 m.kind,.int .i64 m.src,.int .i64 m.dst,.int .i64 m.term,.int .i64 m.idx,.int .i64 m.lt,.int .i64 m.commit,.slice A n c,.bool m.rej,.int .i64 m.hint] 59)=w.alloc (boxO m A n c) from rfl]
   generalize w.alloc (boxO m A n c)=W at HND HGR HBX ⊢
   clear hz
   have c12:=HND.out.c12
   have c6:=HND.out.c6
   obtain ⟨d0,d1,d2,d3,d4,d5,d6,d7,d8,d9⟩:=HBX.out.d
   clear d0 d1 d2 d4 d5 d6 d7 d9
   rw [HREJ.out] at d8
   go_quiet (fail)
   go_wp2
   refine bodyPost_ret (results_none rfl _ _ _) rfl ?_
   rw [HE.out,List.append_nil]
   exact ⟨rfl,F,G,HND.out.drewN nq,HGR.out.below (below_drewN' (Below.refl _ _) nq)⟩
  ·have HREJ:=ld hrej
   clear hrej
   by_cases q3:m.term=p.term+1
   ·have a3:((m.term:Int) != (p.term:Int)+1)=false:=by rw [bne_eq_false_iff_eq];omega
    have W1:IntKind.i64.wrap ((p.term:Int)+1)=(p.term:Int)+1:=IntWalk.i64_in _ (by have:=HTM.out;omega)
    have HQ:=ld (And.intro q1 (And.intro HREJ.out q3))
    clear q1 q3
    go_enter Tryz.func141,Tryz.ntmps141
    go_upto_region 1 with (fail)
    rw [←hz,show w.alloc (.cells #[.int .i64 m.kind,.int .i64 m.src,.int .i64 m.dst,.int .i64 m.term,.int .i64 m.idx,.int .i64 m.lt,.int .i64 m.commit,.slice A n c,.bool m.rej,.int .i64 m.hint] 59)=w.alloc (boxO m A n c) from rfl]
    generalize w.alloc (boxO m A n c)=W at HND HGR HBX ⊢
    clear hz
    have c12:=HND.out.c12
    have c6:=HND.out.c6
    obtain ⟨d0,d1,d2,d3,d4,d5,d6,d7,d8,d9⟩:=HBX.out.d
    clear d0 d1 d2 d4 d5 d6 d7 d9
    rw [HREJ.out] at d8
    go_quiet (fail)
    have HND2:=ld (HND.out.drewN nq)
    have HGR2:=ld (HGR.out.below (below_drewN' (Below.refl _ _) nq))
    have HBX2:Hid (BoxAt (W.drewN nq) z m A n c):=ld HBX.out
    clear HND HGR HBX c12 c6 d8 d3 a1 a3 W1
    generalize W.drewN nq=W2 at HND2 HGR2 HBX2 ⊢
    obtain ⟨mg,lg,c21,hM,hl,hmb,hput⟩:=HND2.out.gr21 (.inl HQ.out.1)
    have HBX3:Hid (BoxAt W2.drew z m A n c):=ld HBX2.out
    have HM:Hid (MB W2.drew mg lg∧mg≠b):=ld ⟨hM.same rfl,hmb.2⟩
    obtain ⟨W3,hrun,hM3,hg3,hz3⟩:=HM.out.1.put KI Tryz.underlying53 m.src HSRC.out ()
    have c21':W2.drew.cell? ⟨b,21,none⟩=some (.map (some mg)):=c21
    have c213:W3.cell? ⟨b,21,none⟩=some (.map (some mg)):=hg3.cell c21' (fun e=>HM.out.2 (by injection e with e;first | exact e | exact e.symm))
    have HBX4:Hid (BoxAt W3 z m A n c):=ld ((hg3.block z HBX3.out.lt (fun e=>HFZ.out (.inl (by injection e with e;rw [e];exact hmb.1)))).trans HBX3.out)
    have hk3:=kput_keys hl m.src
    have hg3':W2.grownBy W3 (some mg):=⟨hg3.os,hg3.tape,hg3.output,hg3.size,hg3.block⟩
    have hNG:=hput W3 _ _ hM3 hk3 hg3'
    have HND4:=ld hNG.1
    have HGR4:=ld (HGR2.out.trans hNG.2)
    have hlen:=hM3.len Tryz.underlying53
    have hll:(kput lg (m.src:Int) ()).length=(Rf.put p.gr m.src).length:=by have:=congrArg List.length hk3;rwa [List.length_map,ints_len] at this
    rw [hll] at hlen
    have hgl2:(Rf.put p.gr m.src).length≤901:=by have:=put_len p.gr m.src;have:=HGL.out;omega
    have HRUN:=ld hrun
    have HLEN:=ld hlen
    clear hM hl hmb hput hM3 hg3 hz3 hk3 hg3' hNG hll HM hrun hlen HND2 HGR2
    go_wp2_with (fail)
    refine wp_region_held_drew (S:=fun W:World=>BoxAt W z m A n c∧W.cell? ⟨b,21,none⟩=some (.map (some mg))) (by kernel_rfl) ⟨HBX3.out,c21'⟩ (fun hHeld=>?_)
    refine tkG150 0 (.pointer (some ⟨b,0,none⟩)) ?_
    refine tkG150 1 (.pointer (some ⟨b,0,none⟩)) ?_
    refine tkG150 2 (.pointer (some ⟨b,21,none⟩)) ?_
    refine tkG150 3 (.map (some mg)) ?_
    refine tkG150 4 (.pointer (some ⟨z,1,none⟩)) ?_
    refine tkG150 5 (.int .i64 (m.src:Int)) ?_
    refine rdy 6 fun K hK=>?_
    refine step_mput (by rfl) 53 _ _ _ (by rfl) (.map (some mg)) (.int .i64 m.src) (.bool true) W3 (by rfl) (by rfl) (by rfl) HRUN.out ?_
    refine hks hK ?_ fun hHeld=>?_
    ·exact ⟨HBX4.out,c213⟩
    clear hK K
    refine don ?_
    clear hHeld c21 c21' HRUN HBX2 HBX3
    have hlen:=HLEN.out
    obtain ⟨gl,hgl⟩:∃ gl,gl=(Rf.put p.gr m.src).length:=⟨_,rfl⟩
    rw [←hgl] at hlen hgl2
    have HGLN:=ld hgl
    clear hgl HLEN
    go_wp2_with (fail)
    refine (majority_at HND4.out gl (by omega)).mono ?_
    rintro e w5 ⟨rfl,rfl⟩
    clear hlen c213
    by_cases hm:Rf.maj cf gl=true
    ·have HE:Hid (Rf.preReply cf draw m p=Rf.stand cf draw { p with gr:=Rf.put p.gr m.src }):=ld (by
      have hq:=HQ.out
      unfold Rf.preReply
      rw [if_neg (by
       rintro (h | h | h)
       ·exact h hq.1
       ·rw [hq.2.1] at h;cases h
       ·exact h hq.2.2)]
      simp only
      rw [←HGLN.out,if_pos hm])
     rw [hm]
     clear hm
     go_wp2_with (fail)
     refine (stand_any HND4.out ⟨HF.out.n,HF.out.time,HF.out.batch,HF.out.id,HF.out.fin,HF.out.term,HF.out.commit⟩ HLT.out HTM.out HML.out).mono ?_
     rintro e w6 ⟨rfl,hA⟩
     have HA:=ld hA
     clear hA
     go_wp2
     go_end0
     rw [HE.out]
     exact ⟨rfl,HA.out.of HGR4.out⟩
    ·have hmf:Rf.maj cf gl=false:=by simpa using hm
     have HE:Hid (Rf.preReply cf draw m p=({ p with gr:=Rf.put p.gr m.src },[])):=ld (by
      have hq:=HQ.out
      unfold Rf.preReply
      rw [if_neg (by
       rintro (h | h | h)
       ·exact h hq.1
       ·rw [hq.2.1] at h;cases h
       ·exact h hq.2.2)]
      simp only
      rw [←HGLN.out,if_neg hm])
     rw [hmf]
     clear hm hmf
     go_wp2
     go_end0
     rw [HE.out,List.append_nil]
     exact ⟨rfl,F,G,HND4.out,HGR4.out⟩
   ·have a3:((m.term:Int) != (p.term:Int)+1)=true:=by rw [bne_iff_ne];omega
    have W1:IntKind.i64.wrap ((p.term:Int)+1)=(p.term:Int)+1:=IntWalk.i64_in _ (by have:=HTM.out;omega)
    have HE:Hid (Rf.preReply cf draw m p=(p,[])):=ld (by unfold Rf.preReply;rw [if_pos (.inr (.inr q3))])
    clear q1 q3
    go_enter Tryz.func141,Tryz.ntmps141
    go_upto_region 1 with (fail)
    rw [←hz,show w.alloc (.cells #[.int .i64 m.kind,.int .i64 m.src,.int .i64 m.dst,.int .i64 m.term,.int .i64 m.idx,.int .i64 m.lt,.int .i64 m.commit,.slice A n c,.bool m.rej,.int .i64 m.hint] 59)=w.alloc (boxO m A n c) from rfl]
    generalize w.alloc (boxO m A n c)=W at HND HGR HBX ⊢
    clear hz
    have c12:=HND.out.c12
    have c6:=HND.out.c6
    obtain ⟨d0,d1,d2,d3,d4,d5,d6,d7,d8,d9⟩:=HBX.out.d
    clear d0 d1 d2 d4 d5 d6 d7 d9
    rw [HREJ.out] at d8
    go_quiet (fail)
    go_wp2
    refine bodyPost_ret (results_none rfl _ _ _) rfl ?_
    rw [HE.out,List.append_nil]
    exact ⟨rfl,F,G,HND.out.drewN nq,HGR.out.below (below_drewN' (Below.refl _ _) nq)⟩
 ·have a1:((p.role:Int) != 2)=true:=by rw [bne_iff_ne];omega
  have HE:Hid (Rf.preReply cf draw m p=(p,[])):=ld (by unfold Rf.preReply;rw [if_pos (.inl q1)])
  clear q1
  go_enter Tryz.func141,Tryz.ntmps141
  go_upto_region 1 with (fail)
  rw [←hz,show w.alloc (.cells #[.int .i64 m.kind,.int .i64 m.src,.int .i64 m.dst,.int .i64 m.term,.int .i64 m.idx,.int .i64 m.lt,.int .i64 m.commit,.slice A n c,.bool m.rej,.int .i64 m.hint] 59)=w.alloc (boxO m A n c) from rfl]
  generalize w.alloc (boxO m A n c)=W at HND HGR HBX ⊢
  clear hz
  have c12:=HND.out.c12
  have c6:=HND.out.c6
  obtain ⟨d0,d1,d2,d3,d4,d5,d6,d7,d8,d9⟩:=HBX.out.d
  clear d0 d1 d2 d4 d5 d6 d7 d9
  go_quiet (fail)
  go_wp2
  refine bodyPost_ret (results_none rfl _ _ _) rfl ?_
  rw [HE.out,List.append_nil]
  exact ⟨rfl,F,G,HND.out.drewN nq,HGR.out.below (below_drewN' (Below.refl _ _) nq)⟩
end
section
variable {P:Program} {ops:Array Oper} {Q:Exit→Act→World→Prop} {md:Region.Mode} {S:World→Prop} {oi:Oper} {fuel:Nat} {listed l':Array Bool} {a a':Act} {w:World}
theorem tkG160 (i:Nat) (v:Value) (h:wpAnyH P md ops Q S fuel l' a' w) (hh:Tk ops Q md S oi listed l' a a' w i v:=by exact tkm) (hw:Region.wanted oi (yielded ops a.tmps)=true:=by rfl) (hv:∀ w,S w→(execOp a.eval oi).run P w=.ok (.value v) w:=by
  intro w hSw;obtain ⟨hS1,hS2,hS3⟩:=hSw;obtain ⟨d0,d1,d2,d3,d4,d5,d6,d7,d8,d9⟩:=hS1.d;have hlk:=look_set hS3 hlg m.src HSRC.out;go_simp):wpAnyH P md ops Q S (fuel+1) listed a w:=tk i v hv h hh hw
theorem tkG161 (i:Nat) (v:Value) (h:wpAnyH P md ops Q S fuel l' a' w) (hh:Tk ops Q md S oi listed l' a a' w i v:=by exact tkm) (hw:Region.wanted oi (yielded ops a.tmps)=true:=by rfl) (hv:∀ w,S w→(execOp a.eval oi).run P w=.ok (.value v) w:=by
  intro w hSw;obtain ⟨hS1,hS2⟩:=hSw;obtain ⟨d0,d1,d2,d3,d4,d5,d6,d7,d8,d9⟩:=hS1.d;go_simp):wpAnyH P md ops Q S (fuel+1) listed a w:=tk i v hv h hh hw
end
section
variable {w w1 w2:World} {F G:Nat→Prop} {b:Nat} {cf:Rf.Cfg} {draw:Int} {l0:List Rf.Ent} {p:Rf.Nd} {ms:List Rf.Msg}
theorem zero4:∀ w,(zeroValue 4).run Tryz.prog w=.ok (.bool false) w:=fun w=>by kernel_rfl
theorem look_set {m:Nat} {l:List (Int×Unit)} {g:List Nat} (hM:MB w m l) (hl:l.map (·.1)=ints g) (x:Nat) (hx:okI (x:Int)):(Instr.lookup 53 (.map (some m)) (.int .i64 x) false).run Tryz.prog w=.ok (.bool (decide (x∈g))) w:=by
 have h:=MapG.look KI hM Tryz.underlying53 (x:Int) hx (.bool false) zero4
 rw [h]
 by_cases hm:x∈g
 ·have h1:(x:Int)∈l.map (·.1):=by rw [hl];exact ints_mem'.2 hm
  obtain ⟨q,hq,e⟩:=List.mem_map.1 h1
  have:kget l (x:Int)=some ():=by
   unfold kget
   cases hf:l.find? (fun p=>p.1=(x:Int)) with
   | none=>exact absurd e (by have:=List.find?_eq_none.1 hf q hq;simpa using this)
   | some r=>rfl
  rw [this,decide_eq_true hm]
 ·have:kget l (x:Int)=none:=by
   unfold kget
   rw [Option.map_eq_none_iff,List.find?_eq_none]
   intro q hq e
   refine hm (ints_mem'.1 ?_)
   rw [←hl]
   exact List.mem_map.2 ⟨q,hq,by simpa using e⟩
  rw [this,decide_eq_false hm]
set_option maxRecDepth 100000 in
set_option maxHeartbeats 4000000 in
theorem voteReply_any (h:NodeAt w F G b cf draw l0 p ms) (hf:Fits cf p) (hml:ms.length≤400) (m:Rf.Msg) (A:Option Addr) (n c:Nat) (hsrc:1≤m.src∧m.src≤cf.n) (hlt:p.log.length<65536) (hgr:p.gr.length≤900) (hrf:p.rf.length≤900) :
  Calls Tryz.prog 143 #[.pointer (some ⟨b,0,none⟩),msgV (mrOf m A n c)] w fun e w'=>e=.returned (.tuple #[])∧After w w' F G b cf draw l0 (Rf.voteReply cf draw m p).1 (ms++(Rf.voteReply cf draw m p).2):=by
 rw [msgV_eq]
 have HND:=ld (h.below (below_one w (boxO m A n c)))
 have HBX:=ld (BoxAt.made w m A n c)
 have HGR:=ld ((Grew.refl (w:=w) (F:=F) (G:=G)).below (below_one w (boxO m A n c)))
 have HF:=ld hf
 have HML:=ld hml
 obtain ⟨z,hz⟩:∃ z,z=w.heap.size:=⟨_,rfl⟩
 have HFZ:Hid (¬ (F z∨G z)):=ld (BoxAt.fresh h hz)
 rw [←hz] at HBX
 have hbl:b<(w.alloc (boxO m A n c)).heap.size:=HND.out.lt
 have HSRC:Hid (okI (m.src:Int)):=ld (by have:=hf.n;unfold okI;omega)
 have HLT:=ld hlt
 have HGL:=ld (And.intro hgr hrf)
 clear h hf hml hsrc hlt hgr hrf
 by_cases q1:p.role=3
 ·have a1:((p.role:Int) != 3)=false:=by rw [bne_eq_false_iff_eq];omega
  have HQ:=ld q1
  clear q1
  rcases Bool.eq_false_or_eq_true m.rej with hrej | hrej
  ·have HREJ:=ld hrej
   clear hrej
   go_enter Tryz.func143,Tryz.ntmps143
   go_upto_region 1 with (fail)
   rw [←hz,show w.alloc (.cells #[.int .i64 m.kind,.int .i64 m.src,.int .i64 m.dst,.int .i64 m.term,.int .i64 m.idx,.int .i64 m.lt,.int .i64 m.commit,.slice A n c,.bool m.rej,.int .i64 m.hint] 59)=w.alloc (boxO m A n c) from rfl]
   generalize w.alloc (boxO m A n c)=W at HND HGR HBX ⊢
   clear hz
   have c12:=HND.out.c12
   obtain ⟨d0,d1,d2,d3,d4,d5,d6,d7,d8,d9⟩:=HBX.out.d
   clear d0 d1 d2 d3 d4 d5 d6 d7 d9
   rw [HREJ.out] at d8
   go_wp2_with (fail)
   obtain ⟨mg,lg,c21,hMg,hlg,hmg,_⟩:=HND.out.gr21 (.inr HQ.out)
   have HLK:=ld (And.intro hMg hlg)
   have BXD:Hid (BoxAt W.drew z m A n c):=ld HBX.out
   have hMgd:MB W.drew mg lg:=hMg.same rfl
   have c21d:W.drew.cell? ⟨b,21,none⟩=some (.map (some mg)):=c21
   clear hMg hmg c12 d8
   refine wp_region_held_drew (S:=fun W:World=>BoxAt W z m A n c∧W.cell? ⟨b,21,none⟩=some (.map (some mg))∧MB W mg lg) (by kernel_rfl) ⟨BXD.out,c21d,hMgd⟩ (fun hHeld=>?_)
   refine tkG160 0 (.pointer (some ⟨b,0,none⟩)) ?_
   refine tkG160 1 (.pointer (some ⟨b,0,none⟩)) ?_
   refine tkG160 2 (.pointer (some ⟨b,21,none⟩)) ?_
   refine tkG160 3 (.map (some mg)) ?_
   refine tkG160 4 (.pointer (some ⟨z,1,none⟩)) ?_
   refine tkG160 5 (.int .i64 (m.src:Int)) ?_
   refine tkG160 6 (.bool (decide (m.src∈p.gr))) ?_
   refine tkG160 7 (.bool (!decide (m.src∈p.gr))) ?_
   refine don ?_
   clear hHeld hMgd c21d hlg HLK BXD
   have ND0:=ld (HND.out.drewN 1)
   have GR0:=ld (HGR.out.below (below_drewN' (Below.refl _ _) 1))
   have BX0:Hid (BoxAt (W.drewN 1) z m A n c):=ld HBX.out
   have hW0:W.drew=W.drewN 1:=rfl
   rw [hW0]
   clear HND HGR HBX c21 hW0
   generalize W.drewN 1=V0 at ND0 GR0 BX0 ⊢
   by_cases hin:m.src∈p.gr
   ·have hdec:decide (m.src∈p.gr)=true:=decide_eq_true hin
    have HIN:=ld hin
    rw [hdec]
    clear hin hdec
    obtain ⟨mr,lr,c22,hMr,hlr,hmr,_⟩:=ND0.out.rf22 HQ.out
    have hlen:=hMr.len Tryz.underlying53
    have hll:=congrArg List.length hlr
    rw [List.length_map,ints_len] at hll
    rw [hll] at hlen
    clear hMr hlr hmr hll
    obtain ⟨gl,hgl⟩:∃ gl,gl=p.rf.length:=⟨_,rfl⟩
    rw [←hgl] at hlen
    have hgl2:gl≤902:=by rw [hgl];have:=HGL.out.2;omega
    have HGLN:=ld hgl
    clear hgl
    go_wp2_with (fail)
    refine (majority_at ND0.out gl (by omega)).mono ?_
    rintro e w5 ⟨rfl,rfl⟩
    clear hlen c22
    by_cases hm:Rf.maj cf gl=true
    ·have HE:Hid (Rf.voteReply cf draw m p=(Rf.follow cf draw p.term 0 p,[])):=ld (by
      have hq:=HQ.out
      unfold Rf.voteReply
      rw [if_neg (fun h=>h hq),if_neg (by rw [HREJ.out];decide)]
      simp only
      rw [if_pos HIN.out]
      rw [if_pos (by rw [←HGLN.out];exact hm)])
     rw [hm]
     clear hm
     have c6:=ND0.out.c6
     go_wp2_with (fail)
     refine (follow_at ND0.out ⟨HF.out.n,HF.out.time,HF.out.batch,HF.out.id,HF.out.fin,HF.out.term,HF.out.commit⟩ p.term 0).mono ?_
     rintro e w6 ⟨rfl,hA⟩
     have HA:=ld hA
     clear hA
     go_wp2
     go_end0
     rw [HE.out,List.append_nil]
     exact ⟨rfl,HA.out.of GR0.out⟩
    ·have hmf:Rf.maj cf gl=false:=by simpa using hm
     have HE:Hid (Rf.voteReply cf draw m p=(p,[])):=ld (by
      have hq:=HQ.out
      unfold Rf.voteReply
      rw [if_neg (fun h=>h hq),if_neg (by rw [HREJ.out];decide)]
      simp only
      rw [if_pos HIN.out]
      rw [if_neg (by rw [←HGLN.out];exact hm)])
     rw [hmf]
     clear hm hmf
     go_wp2
     go_end0
     rw [HE.out,List.append_nil]
     exact ⟨rfl,F,G,ND0.out,GR0.out⟩
   ·have hdec:decide (m.src∈p.gr)=false:=decide_eq_false hin
    have HIN:=ld hin
    rw [hdec]
    clear hin hdec
    go_wp2_with (fail)
    obtain ⟨m1,l1,cc1,hM1,hl1,hmb1,hput1⟩:=ND0.out.rf22 HQ.out
    have BXd1:Hid (BoxAt V0.drew z m A n c):=ld BX0.out
    have HM1:Hid (MB V0.drew m1 l1∧m1≠b):=ld ⟨hM1.same rfl,hmb1.2⟩
    obtain ⟨V1,hrun1,hN1,hg1,hz1⟩:=HM1.out.1.put KI Tryz.underlying53 m.src HSRC.out ()
    have cd1:V0.drew.cell? ⟨b,22,none⟩=some (.map (some m1)):=cc1
    have ce1:V1.cell? ⟨b,22,none⟩=some (.map (some m1)):=hg1.cell cd1 (fun e=>HM1.out.2 (by injection e with e;first | exact e | exact e.symm))
    have BX1:Hid (BoxAt V1 z m A n c):=ld ((hg1.block z BXd1.out.lt (fun e=>HFZ.out (.inl (by injection e with e;rw [e];exact hmb1.1)))).trans BXd1.out)
    have hk1:=kput_keys hl1 m.src
    have hgg1:V0.grownBy V1 (some m1):=⟨hg1.os,hg1.tape,hg1.output,hg1.size,hg1.block⟩
    have hNG1:=hput1 V1 _ _ hN1 hk1 hgg1
    have ND1:=ld hNG1.1
    have GR1:=ld (GR0.out.trans hNG1.2)
    have hlen1:=hN1.len Tryz.underlying53
    have hll1:=congrArg List.length hk1
    rw [List.length_map,ints_len] at hll1
    rw [hll1] at hlen1
    have HRUN1:=ld hrun1
    have HLEN1:=ld hlen1
    clear hM1 hl1 hmb1 hput1 hN1 hg1 hz1 hk1 hgg1 hNG1 hll1 HM1 hrun1 hlen1 ND0 GR0
    refine wp_region_held_drew (S:=fun W:World=>BoxAt W z m A n c∧W.cell? ⟨b,22,none⟩=some (.map (some m1))) (by kernel_rfl) ⟨BXd1.out,cd1⟩ (fun hHeld=>?_)
    refine tkG161 0 (.pointer (some ⟨b,0,none⟩)) ?_
    refine tkG161 1 (.pointer (some ⟨b,0,none⟩)) ?_
    refine tkG161 2 (.pointer (some ⟨b,22,none⟩)) ?_
    refine tkG161 3 (.map (some m1)) ?_
    refine tkG161 4 (.pointer (some ⟨z,1,none⟩)) ?_
    refine tkG161 5 (.int .i64 (m.src:Int)) ?_
    refine rdy 6 fun K hK=>?_
    refine step_mput (by rfl) 53 _ _ _ (by rfl) (.map (some m1)) (.int .i64 m.src) (.bool true) V1 (by rfl) (by rfl) (by rfl) HRUN1.out ?_
    refine hks hK ?_ fun hHeld=>?_
    ·exact ⟨BX1.out,ce1⟩
    clear hK K
    refine don ?_
    clear hHeld cc1 cd1 HRUN1 BXd1 BX0
    have hlen:=HLEN1.out
    obtain ⟨gl,hgl⟩:∃ gl,gl=(Rf.put p.rf m.src).length:=⟨_,rfl⟩
    rw [←hgl] at hlen
    have hgl2:gl≤902:=by rw [hgl];have:=put_len p.rf m.src;have:=HGL.out.2;omega
    have HGLN:=ld hgl
    clear hgl HLEN1
    go_wp2_with (fail)
    refine (majority_at ND1.out gl (by omega)).mono ?_
    rintro e w5 ⟨rfl,rfl⟩
    clear hlen
    by_cases hm:Rf.maj cf gl=true
    ·have HE:Hid (Rf.voteReply cf draw m p=(Rf.follow cf draw p.term 0 { p with rf:=Rf.put p.rf m.src },[])):=ld (by
      have hq:=HQ.out
      unfold Rf.voteReply
      rw [if_neg (fun h=>h hq),if_neg (by rw [HREJ.out];decide)]
      simp only
      rw [if_neg HIN.out]
      rw [if_pos (by rw [←HGLN.out];exact hm)])
     rw [hm]
     clear hm
     have c6:=ND1.out.c6
     go_wp2_with (fail)
     refine (follow_at ND1.out ⟨HF.out.n,HF.out.time,HF.out.batch,HF.out.id,HF.out.fin,HF.out.term,HF.out.commit⟩ p.term 0).mono ?_
     rintro e w6 ⟨rfl,hA⟩
     have HA:=ld hA
     clear hA
     go_wp2
     go_end0
     rw [HE.out,List.append_nil]
     exact ⟨rfl,HA.out.of GR1.out⟩
    ·have hmf:Rf.maj cf gl=false:=by simpa using hm
     have HE:Hid (Rf.voteReply cf draw m p=({ p with rf:=Rf.put p.rf m.src },[])):=ld (by
      have hq:=HQ.out
      unfold Rf.voteReply
      rw [if_neg (fun h=>h hq),if_neg (by rw [HREJ.out];decide)]
      simp only
      rw [if_neg HIN.out]
      rw [if_neg (by rw [←HGLN.out];exact hm)])
     rw [hmf]
     clear hm hmf
     go_wp2
     go_end0
     rw [HE.out,List.append_nil]
     exact ⟨rfl,F,G,ND1.out,GR1.out⟩
  ·have HREJ:=ld hrej
   clear hrej
   go_enter Tryz.func143,Tryz.ntmps143
   go_upto_region 1 with (fail)
   rw [←hz,show w.alloc (.cells #[.int .i64 m.kind,.int .i64 m.src,.int .i64 m.dst,.int .i64 m.term,.int .i64 m.idx,.int .i64 m.lt,.int .i64 m.commit,.slice A n c,.bool m.rej,.int .i64 m.hint] 59)=w.alloc (boxO m A n c) from rfl]
   generalize w.alloc (boxO m A n c)=W at HND HGR HBX ⊢
   clear hz
   have c12:=HND.out.c12
   obtain ⟨d0,d1,d2,d3,d4,d5,d6,d7,d8,d9⟩:=HBX.out.d
   clear d0 d1 d2 d3 d4 d5 d6 d7 d9
   rw [HREJ.out] at d8
   go_wp2_with (fail)
   clear c12 d8
   obtain ⟨m1,l1,cc1,hM1,hl1,hmb1,hput1⟩:=HND.out.rf22 HQ.out
   have BXd1:Hid (BoxAt W.drew z m A n c):=ld HBX.out
   have HM1:Hid (MB W.drew m1 l1∧m1≠b):=ld ⟨hM1.same rfl,hmb1.2⟩
   obtain ⟨V1,hrun1,hN1,hg1,hz1⟩:=HM1.out.1.del KI Tryz.underlying53 m.src HSRC.out 0
   have cd1:W.drew.cell? ⟨b,22,none⟩=some (.map (some m1)):=cc1
   have ce1:V1.cell? ⟨b,22,none⟩=some (.map (some m1)):=hg1.cell cd1 (fun e=>HM1.out.2 (by injection e with e;first | exact e | exact e.symm))
   have BX1:Hid (BoxAt V1 z m A n c):=ld ((hg1.block z BXd1.out.lt (fun e=>HFZ.out (.inl (by injection e with e;rw [e];exact hmb1.1)))).trans BXd1.out)
   have hk1:=kdel_keys hl1 m.src
   have hgg1:W.grownBy V1 (some m1):=⟨hg1.os,hg1.tape,hg1.output,hg1.size,hg1.block⟩
   have hNG1:=hput1 V1 _ _ hN1 hk1 hgg1
   have ND1:=ld hNG1.1
   have GR1:=ld (HGR.out.trans hNG1.2)
   have hlen1:=hN1.len Tryz.underlying53
   have hll1:=congrArg List.length hk1
   rw [List.length_map,ints_len] at hll1
   rw [hll1] at hlen1
   have HRUN1:=ld hrun1
   have HLEN1:=ld hlen1
   clear hM1 hl1 hmb1 hput1 hN1 hg1 hz1 hk1 hgg1 hNG1 hll1 HM1 hrun1 hlen1 HND HGR
   refine wp_region_held_drew (S:=fun W:World=>BoxAt W z m A n c∧W.cell? ⟨b,22,none⟩=some (.map (some m1))) (by kernel_rfl) ⟨BXd1.out,cd1⟩ (fun hHeld=>?_)
   refine tkG161 0 (.pointer (some ⟨b,0,none⟩)) ?_
   refine tkG161 1 (.pointer (some ⟨b,0,none⟩)) ?_
   refine tkG161 2 (.pointer (some ⟨b,22,none⟩)) ?_
   refine tkG161 3 (.map (some m1)) ?_
   refine tkG161 4 (.pointer (some ⟨z,1,none⟩)) ?_
   refine tkG161 5 (.int .i64 (m.src:Int)) ?_
   refine rdy 6 fun K hK=>?_
   refine step_del (by rfl) _ _ 53 3 (by rfl) (.map (some m1)) (.int .i64 m.src) (.tuple #[]) V1 (by rfl) (by rfl) HRUN1.out ?_
   refine hks hK ?_ fun hHeld=>?_
   ·exact ⟨BX1.out,ce1⟩
   clear hK K
   refine don ?_
   clear hHeld cc1 cd1 HRUN1 BXd1 HBX
   clear HLEN1
   go_wp2_with (fail)
   obtain ⟨m2,l2,cc2,hM2,hl2,hmb2,hput2⟩:=ND1.out.gr21 (.inr HQ.out)
   have BXd2:Hid (BoxAt V1.drew z m A n c):=ld BX1.out
   have HM2:Hid (MB V1.drew m2 l2∧m2≠b):=ld ⟨hM2.same rfl,hmb2.2⟩
   obtain ⟨V2,hrun2,hN2,hg2,hz2⟩:=HM2.out.1.put KI Tryz.underlying53 m.src HSRC.out ()
   have cd2:V1.drew.cell? ⟨b,21,none⟩=some (.map (some m2)):=cc2
   have ce2:V2.cell? ⟨b,21,none⟩=some (.map (some m2)):=hg2.cell cd2 (fun e=>HM2.out.2 (by injection e with e;first | exact e | exact e.symm))
   have BX2:Hid (BoxAt V2 z m A n c):=ld ((hg2.block z BXd2.out.lt (fun e=>HFZ.out (.inl (by injection e with e;rw [e];exact hmb2.1)))).trans BXd2.out)
   have hk2:=kput_keys hl2 m.src
   have hgg2:V1.grownBy V2 (some m2):=⟨hg2.os,hg2.tape,hg2.output,hg2.size,hg2.block⟩
   have hNG2:=hput2 V2 _ _ hN2 hk2 hgg2
   have ND2:=ld hNG2.1
   have GR2:=ld (GR1.out.trans hNG2.2)
   have hlen2:=hN2.len Tryz.underlying53
   have hll2:=congrArg List.length hk2
   rw [List.length_map,ints_len] at hll2
   rw [hll2] at hlen2
   have HRUN2:=ld hrun2
   have HLEN2:=ld hlen2
   clear hM2 hl2 hmb2 hput2 hN2 hg2 hz2 hk2 hgg2 hNG2 hll2 HM2 hrun2 hlen2 ND1 GR1
   refine wp_region_held_drew (S:=fun W:World=>BoxAt W z m A n c∧W.cell? ⟨b,21,none⟩=some (.map (some m2))) (by kernel_rfl) ⟨BXd2.out,cd2⟩ (fun hHeld=>?_)
   refine tkG161 0 (.pointer (some ⟨b,0,none⟩)) ?_
   refine tkG161 1 (.pointer (some ⟨b,0,none⟩)) ?_
   refine tkG161 2 (.pointer (some ⟨b,21,none⟩)) ?_
   refine tkG161 3 (.map (some m2)) ?_
   refine tkG161 4 (.pointer (some ⟨z,1,none⟩)) ?_
   refine tkG161 5 (.int .i64 (m.src:Int)) ?_
   refine rdy 6 fun K hK=>?_
   refine step_mput (by rfl) 53 _ _ _ (by rfl) (.map (some m2)) (.int .i64 m.src) (.bool true) V2 (by rfl) (by rfl) (by rfl) HRUN2.out ?_
   refine hks hK ?_ fun hHeld=>?_
   ·exact ⟨BX2.out,ce2⟩
   clear hK K
   refine don ?_
   clear hHeld cc2 cd2 HRUN2 BXd2 BX1
   have hlen:=HLEN2.out
   obtain ⟨gl,hgl⟩:∃ gl,gl=(Rf.put p.gr m.src).length:=⟨_,rfl⟩
   rw [←hgl] at hlen
   have hgl2:gl≤902:=by rw [hgl];have:=put_len p.gr m.src;have:=HGL.out.1;omega
   have HGLN:=ld hgl
   clear hgl HLEN2
   go_wp2_with (fail)
   refine (majority_at ND2.out gl (by omega)).mono ?_
   rintro e w5 ⟨rfl,rfl⟩
   clear hlen
   by_cases hm:Rf.maj cf gl=true
   ·have HE:Hid (Rf.voteReply cf draw m p=Rf.lead cf { p with rf:=p.rf.filter (·≠m.src),gr:=Rf.put p.gr m.src }):=ld (by
     have hq:=HQ.out
     unfold Rf.voteReply
     rw [if_neg (fun h=>h hq),if_pos HREJ.out]
     simp only
     rw [if_pos (by rw [←HGLN.out];exact hm)])
    rw [hm]
    clear hm
    go_wp2_with (fail)
    refine (lead_any ND2.out ⟨HF.out.n,HF.out.time,HF.out.batch,HF.out.id,HF.out.fin,HF.out.term,HF.out.commit⟩ HLT.out (by have:=HML.out;omega)).mono ?_
    rintro e w6 ⟨rfl,hA⟩
    have HA:=ld hA
    clear hA
    go_wp2
    refine bodyPost_ret (results_none rfl _ _ _) rfl ?_
    rw [HE.out]
    exact ⟨rfl,HA.out.of GR2.out⟩
   ·have hmf:Rf.maj cf gl=false:=by simpa using hm
    have HE:Hid (Rf.voteReply cf draw m p=({ p with rf:=p.rf.filter (·≠m.src),gr:=Rf.put p.gr m.src },[])):=ld (by
     have hq:=HQ.out
     unfold Rf.voteReply
     rw [if_neg (fun h=>h hq),if_pos HREJ.out]
     simp only
     rw [if_neg (by rw [←HGLN.out];exact hm)])
    rw [hmf]
    clear hm hmf
    go_wp2
    refine bodyPost_ret (results_none rfl _ _ _) rfl ?_
    rw [HE.out,List.append_nil]
    exact ⟨rfl,F,G,ND2.out,GR2.out⟩
 ·have a1:((p.role:Int) != 3)=true:=by rw [bne_iff_ne];omega
  have HE:Hid (Rf.voteReply cf draw m p=(p,[])):=ld (by unfold Rf.voteReply;rw [if_pos q1])
  clear q1
  go_enter Tryz.func143,Tryz.ntmps143
  go_upto_region 1 with (fail)
  rw [←hz,show w.alloc (.cells #[.int .i64 m.kind,.int .i64 m.src,.int .i64 m.dst,.int .i64 m.term,.int .i64 m.idx,.int .i64 m.lt,.int .i64 m.commit,.slice A n c,.bool m.rej,.int .i64 m.hint] 59)=w.alloc (boxO m A n c) from rfl]
  generalize w.alloc (boxO m A n c)=W at HND HGR HBX ⊢
  clear hz
  have c12:=HND.out.c12
  go_wp2
  refine bodyPost_ret (results_none rfl _ _ _) rfl ?_
  rw [HE.out,List.append_nil]
  exact ⟨rfl,F,G,HND.out,HGR.out⟩
end
section
variable {w w1 w2:World} {F G:Nat→Prop} {b:Nat} {cf:Rf.Cfg} {draw:Int} {l0:List Rf.Ent} {p:Rf.Nd} {ms:List Rf.Msg}
theorem exec_maxN {o:Oper} {e:Act} (x y:Operand) (ats:Array TypeId) (ho:o.op=.call { callee:=.builtin .max,args:=#[x,y],argTypes:=ats }) (a c:Nat) (hx:e.eval x=.int .i64 a) (hy:e.eval y=.int .i64 c) (w:World) :
  (execOp e.eval o).run Tryz.prog w=.ok (.value (.int .i64 ((max a c:Nat):Int))) w:=by
 unfold execOp
 simp only [ho,resolve,invoke,builtin,Sem.run_bind,Sem.run_pure,Result.andThen_ok,List.map_toArray,List.map_cons,List.map_nil,hx,hy]
 by_cases h:a<c
 ·rw [show max a c=c by omega]
  simp [Builtin.max_,Builtin.max2,h]
 ·rw [show max a c=a by omega]
  simp [Builtin.max_,Builtin.max2,h]
theorem exec_minN {o:Oper} {e:Act} (x y:Operand) (ats:Array TypeId) (ho:o.op=.call { callee:=.builtin .min,args:=#[x,y],argTypes:=ats }) (a c:Nat) (hx:e.eval x=.int .i64 a) (hy:e.eval y=.int .i64 c) (w:World) :
  (execOp e.eval o).run Tryz.prog w=.ok (.value (.int .i64 ((min a c:Nat):Int))) w:=by
 unfold execOp
 simp only [ho,resolve,invoke,builtin,Sem.run_bind,Sem.run_pure,Result.andThen_ok,List.map_toArray,List.map_cons,List.map_nil,hx,hy]
 by_cases h:c<a
 ·rw [show min a c=c by omega]
  simp [Builtin.min_,Builtin.min2,h]
 ·rw [show min a c=a by omega]
  simp [Builtin.min_,Builtin.min2,h]
theorem look_nat {m:Nat} {l:List Nat} {f:Nat→Nat} (hM:MI w m (l.map fun (q:Nat)=>((q:Int),((f q:Nat):Int)))) (x:Nat) (hx:okI (x:Int)) (hm:x∈l):(Instr.lookup 39 (.map (some m)) (.int .i64 x) false).run Tryz.prog w=.ok (.int .i64 (f x:Nat)) w:=by
 have h:=MapG.look KI hM Tryz.underlying39 (x:Int) hx _ zero3
 rw [kget_map f l x hm] at h
 exact h
theorem kput_upd (l:List Nat) (f:Nat→Nat) (x v:Nat) (hm:x∈l):kput (l.map fun (q:Nat)=>((q:Int),((f q:Nat):Int))) (x:Int) ((v:Nat):Int)=l.map fun (q:Nat)=>((q:Int),((Rf.upd f x v q:Nat):Int)):=by
 unfold kput
 rw [if_pos (by rw [List.map_map];exact List.mem_map.2 ⟨x,hm,rfl⟩),List.map_map]
 refine List.map_congr_left fun q _=>?_
 simp only [Function.comp,Rf.upd]
 by_cases hq:q=x
 ·subst hq;simp
 ·rw [if_neg (by omega),if_neg hq]
theorem NodeAt.mt16 (h:NodeAt w F G b cf draw l0 p ms) (h4:p.role=4):∃ (m:Nat),w.cell? ⟨b,16,none⟩=some (.map (some m))∧MI w m ((Rf.others cf p.id).map fun (q:Nat)=>((q:Int),((p.mt q:Nat):Int)))∧(F m∧m≠b) ∧
  ∀ w' (f:Nat→Nat),MI w' m ((Rf.others cf p.id).map fun (q:Nat)=>((q:Int),((f q:Nat):Int)))→w.grownBy w' (some m)→NodeAt w' F G b cf draw l0 { p with mt:=f } ms∧Grew w w' F G F G:=by
 obtain ⟨s,c,hN,h,h2⟩:=h
 obtain ⟨⟨a,b',d,e1,e2,e3⟩,h5,h6,h7⟩:=h.lead h4
 have hh:=hN.rest.mt
 rw [e1,h5] at hh
 refine ⟨a,by have:=nc16 hN.blk;rwa [e1] at this,hh.2,⟨hh.1,hh.2.ne hN.blk⟩,fun w' f hM hg=>?_⟩
 have hl:((Rf.others cf p.id).map fun (q:Nat)=>((q:Int),((f q:Nat):Int)))=(Rf.others cf p.id).map fun (q:Nat)=>((q:Int),((f q:Nat):Int)):=rfl
 refine ⟨⟨s,_,hN.put_mt e1 hM hg,⟨h.id,h.cfg,h.hard,h.zero,h.commit,h.role,h.time,h.draw,h.peers,h.log,fun _=>⟨⟨a,b',d,e1,e2,e3⟩,hl,h6,h7⟩,h.gr,h.rf,h.sn⟩,h2⟩,Grew.ofChg (Chg.refl.grown hg fun k hk=>.inl ?_) (fun _ h=>h) fun _ h=>.inl h⟩
 injection hk with hk
 rw [←hk];exact hh.1
theorem NodeAt.nx17 (h:NodeAt w F G b cf draw l0 p ms) (h4:p.role=4):∃ (m:Nat),w.cell? ⟨b,17,none⟩=some (.map (some m))∧MI w m ((Rf.others cf p.id).map fun (q:Nat)=>((q:Int),((p.nx q:Nat):Int)))∧(F m∧m≠b) ∧
  ∀ w' (f:Nat→Nat),MI w' m ((Rf.others cf p.id).map fun (q:Nat)=>((q:Int),((f q:Nat):Int)))→w.grownBy w' (some m)→NodeAt w' F G b cf draw l0 { p with nx:=f } ms∧Grew w w' F G F G:=by
 obtain ⟨s,c,hN,h,h2⟩:=h
 obtain ⟨⟨a,b',d,e1,e2,e3⟩,h5,h6,h7⟩:=h.lead h4
 have hh:=hN.rest.nx
 rw [e2,h6] at hh
 refine ⟨b',by have:=nc17 hN.blk;rwa [e2] at this,hh.2,⟨hh.1,hh.2.ne hN.blk⟩,fun w' f hM hg=>?_⟩
 have hl:((Rf.others cf p.id).map fun (q:Nat)=>((q:Int),((f q:Nat):Int)))=(Rf.others cf p.id).map fun (q:Nat)=>((q:Int),((f q:Nat):Int)):=rfl
 refine ⟨⟨s,_,hN.put_nx e2 hM hg,⟨h.id,h.cfg,h.hard,h.zero,h.commit,h.role,h.time,h.draw,h.peers,h.log,fun _=>⟨⟨a,b',d,e1,e2,e3⟩,h5,hl,h7⟩,h.gr,h.rf,h.sn⟩,h2⟩,Grew.ofChg (Chg.refl.grown hg fun k hk=>.inl ?_) (fun _ h=>h) fun _ h=>.inl h⟩
 injection hk with hk
 rw [←hk];exact hh.1
theorem NodeAt.hd18' (h:NodeAt w F G b cf draw l0 p ms) (h4:p.role=4):∃ (m:Nat) (l:List (Int×Unit)),w.cell? ⟨b,18,none⟩=some (.map (some m))∧MB w m l∧l.map (·.1)=ints p.hd∧(F m∧m≠b) ∧
  ∀ w' (l':List (Int×Unit)) (hd':List Nat),MB w' m l'→l'.map (·.1)=ints hd'→w.grownBy w' (some m)→NodeAt w' F G b cf draw l0 { p with hd:=hd' } ms∧Grew w w' F G F G:=by
 obtain ⟨s,c,hN,h,h2⟩:=h
 obtain ⟨⟨a,b',d,e1,e2,e3⟩,h5,h6,h7⟩:=h.lead h4
 have hh:=hN.rest.hd
 rw [e3] at hh
 refine ⟨d,c.hd,by have:=nc18 hN.blk;rwa [e3] at this,hh.2,h7,⟨hh.1,hh.2.ne hN.blk⟩,fun w' l' hd' hM hl hg=>?_⟩
 refine ⟨⟨s,_,hN.put_hd e3 hM hg,⟨h.id,h.cfg,h.hard,h.zero,h.commit,h.role,h.time,h.draw,h.peers,h.log,fun _=>⟨⟨a,b',d,e1,e2,e3⟩,h5,h6,hl⟩,h.gr,h.rf,h.sn⟩,h2⟩,Grew.ofChg (Chg.refl.grown hg fun k hk=>.inl ?_) (fun _ h=>h) fun _ h=>.inl h⟩
 injection hk with hk
 rw [←hk];exact hh.1
end
end Go.Proofs.YtocogcgnahbpkaaGreat
