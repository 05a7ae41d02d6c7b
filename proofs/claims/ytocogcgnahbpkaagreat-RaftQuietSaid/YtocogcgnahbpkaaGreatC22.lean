import Derived.Test.YtocogcgnahbpkaaGreatC1
import Derived.Test.YtocogcgnahbpkaaGreatC12
import Derived.Test.YtocogcgnahbpkaaGreatC21
namespace Go.Proofs.YtocogcgnahbpkaaGreat
open Go.RowKit
section
variable {P:Program} {ops:Array Oper} {Q:Exit→Act→World→Prop} {md:Region.Mode} {S:World→Prop} {oi:Oper} {fuel:Nat} {listed l':Array Bool} {a a':Act} {w:World}
theorem tkG70 (i:Nat) (v:Value) (h:wpAnyH P md ops Q S fuel l' a' w) (hh:Tk ops Q md S oi listed l' a a' w i v:=by exact tkm) (hw:Region.wanted oi (yielded ops a.tmps)=true:=by rfl) (hv:∀ w,S w→(execOp a.eval oi).run P w=.ok (.value v) w:=by
  intro w hSw;obtain ⟨hS1,hS2⟩:=hSw;go_simp):wpAnyH P md ops Q S (fuel+1) listed a w:=tk i v hv h hh hw
end
theorem step_entry {P:Program} {w:World} {ops:Array Oper} {o:Oper} {a:Act} {K:Act→World→Prop} {Q:Exit→Act→World→Prop} {E:Prop} (hgd:o.guard=none) (t:TypeId) (m k:Operand)
  (ho:o.op=.mapEntry t m k) (v1 v2 v':Value) (w':World) (hv:a.eval m=v1) (hx:a.eval k=v2) (hrun:(Instr.mapEntry t v1 v2).run P w=.ok v' w')
  (h:K (a.put o.dst v') w'):if Region.wanted o (yielded ops a.tmps)=true then Oper.wp P o a w K Q else E:=by
 have hw:Region.wanted o (yielded ops a.tmps)=true:=by simp [Region.wanted,hgd]
 rw [if_pos hw]
 unfold Oper.wp execOp
 simp only [ho,Sem.run_bind,Sem.run_pure,Result.andThen_ok,hv,hx,hrun]
 exact h
theorem step_estore {P:Program} {w:World} {ops:Array Oper} {o:Oper} {a:Act} {K:Act→World→Prop} {Q:Exit→Act→World→Prop} {E:Prop} (hgd:o.guard=none) (t:TypeId) (m k x:Operand)
  (ho:o.op=.entryStore t m k x) (v1 v2 v3:Value) (w':World) (hv:a.eval m=v1) (hk:a.eval k=v2) (hx:a.eval x=v3) (hrun:(Instr.entryStore t v1 v2 v3).run P w=.ok () w')
  (h:K (a.put o.dst undef) w'):if Region.wanted o (yielded ops a.tmps)=true then Oper.wp P o a w K Q else E:=by
 have hw:Region.wanted o (yielded ops a.tmps)=true:=by simp [Region.wanted,hgd]
 rw [if_pos hw]
 unfold Oper.wp execOp
 simp only [ho,Sem.run_bind,Sem.run_pure,Result.andThen_ok,hv,hk,hx,hrun,Oper.upon]
 exact h
theorem others_nodup (cf:Rf.Cfg) (id:Nat):(ints (Rf.others cf id)).Nodup:=by
 unfold ints Rf.others
 refine List.pairwise_map.2 ((List.filter_sublist.nodup (List.nodup_range' (step:=1))).imp fun h e=>h (by omega))
theorem others_okI {cf:Rf.Cfg} {p:Rf.Nd} (h:Fits cf p):∀ q∈ints (Rf.others cf p.id),okI q:=fun q hq=>by
 obtain ⟨k,hk,rfl⟩:=ints_mem hq
 have:=others_le hk
 have:=h.n
 unfold okI;omega
theorem others_len {cf:Rf.Cfg} {p:Rf.Nd} (h:Fits cf p):(ints (Rf.others cf p.id)).length≤7:=by
 unfold ints Rf.others
 rw [List.length_map]
 exact Nat.le_trans (List.length_filter_le _ _) (by have:=h.n;simp;omega)
theorem not_mem_take {l:List Int} (h:l.Nodup) {j:Nat} (hj:j<l.length):l[j] ∉ l.take j:=by
 rw [←List.take_append_drop j l] at h
 intro hm
 exact (List.nodup_append.1 h).2.2 _ hm l[j] (by have:=List.drop_eq_getElem_cons hj;rw [this];exact List.mem_cons_self ..) rfl
theorem kput_new {β:Type} (f:Int→β) (l:List Int) (x:Int) (h:x ∉ l):kput (l.map fun q=>(q,f q)) x (f x)=(l++[x]).map fun q=>(q,f q):=by
 unfold kput
 rw [if_neg (by simpa [List.map_map,Function.comp_def] using h)]
 simp
def Rf.Nd.led1 (p:Rf.Nd):Rf.Nd:={ p with role:=4,leader:=p.id,elapsed:=0,beat:=0,mt:=fun _=>0,nx:=fun _=>p.log.length+1,hd:=[],log:=p.log++[⟨p.term,[]⟩] }
theorem Rf.lead_led1 {cf:Rf.Cfg} {p:Rf.Nd} (h:p.log.length<65536):Rf.lead cf p=(Rf.count cf p.led1,Rf.apps cf (Rf.count cf p.led1)):=by
 unfold Rf.lead
 simp only
 rw [if_pos (show Rf.Nd.fin _<1099511627776 by show p.log.length<_;omega)]
 rfl
theorem Rf.count_fits {cf:Rf.Cfg} {p:Rf.Nd} (h:Fits cf p):Fits cf (Rf.count cf p):=by
 refine ⟨h.n,h.time,h.batch,h.id,h.fin,h.term,?_⟩
 show Rf.countFrom cf p p.fin≤p.log.length
 rcases Rf.countFrom_cases cf p p.fin with e | ⟨j,_,h2,_,_,e⟩
 ·rw [e];exact h.commit
 ·rw [e];exact h2
theorem numb_one (k:Nat) (e:Rf.Ent):numb k [e]=[⟨(k:Int)+1,e.term,e.data⟩]:=rfl
set_option maxRecDepth 100000 in
set_option maxHeartbeats 4000000 in
theorem lead_any {w:World} {F G:Nat→Prop} {b:Nat} {cf:Rf.Cfg} {draw:Int} {l0:List Rf.Ent} {p:Rf.Nd} {ms:List Rf.Msg} (h:NodeAt w F G b cf draw l0 p ms) (hf:Fits cf p) (hlt:p.log.length<65536) (hml:ms.length≤500) :
  Calls Tryz.prog 155 #[.pointer (some ⟨b,0,none⟩)] w fun e w'=>e=.returned (.tuple #[])∧After w w' F G b cf draw l0 (Rf.lead cf p).1 (ms++(Rf.lead cf p).2):=by
 obtain ⟨s,c,h,hR,hMS,hFR⟩:=h
 have HR:=ld hR
 have HMS:=ld hMS
 have HFR:=ld hFR
 have HFT:=ld hf
 have HLT:=ld hlt
 have HML:=ld hml
 have hpl:=hR.pl
 have hfn:=hf.n
 have hl:c.peers.length≤7:=by omega
 clear hR hMS hFR hf hpl hfn hlt hml
 have hb:=h.blk
 have c0:=nc0 hb
 have hf:=frozen_block hb
 have c12:=nc12 hb
 have c13:=nc13 hb
 have c14:=nc14 hb
 have c16:=nc16 hb
 have c17:=nc17 hb
 have c18:=nc18 hb
 have c19:=nc19 hb
 have c20:=nc20 hb
 clear hb
 go_enter Tryz.func155,Tryz.ntmps155
 go_wp2_with (fail)
 generalize hW1:(((((w.setCell ⟨b,12,none⟩ (.int .i64 4)).setCell ⟨b,13,none⟩ (.int .i64 s.id)).setCell ⟨b,20,none⟩ (.int .i64 0)).setCell ⟨b,14,none⟩ (.int .i64 0)).setCell ⟨b,19,none⟩ (.int .i64 0))=W1
 have hB1:=block_setCell (o:=19) (block_setCell (o:=14) (block_setCell (o:=20) (block_setCell (o:=13) (block_setCell (o:=12) h.blk (.int .i64 4)) (.int .i64 s.id)) (.int .i64 0)) (.int .i64 0)) (.int .i64 0)
 have hC1:Chg (fun i=>i=b) w W1:=by rw [←hW1];repeat (first | exact Chg.refl | refine chg1 ?_ _)
 rw [hW1] at hB1
 have HN1:=ld (h.scal (s':={ s with role:=4,leader:=s.id,heir:=0,elapsed:=0,beat:=0 }) hC1 hB1)
 clear hB1 hW1 c0 hf c12 c13 c14 c16 c17 c18 c19 c20
 rw [run_makeMap]
 go_wp2_with (fail)
 rw [run_makeMap]
 go_wp2_with (fail)
 rw [run_makeMap]
 simp only [World.alloc_size]
 generalize hW2:((W1.alloc (.map #[] 0)).alloc (.map #[] 0)).alloc (.map #[] 0)=W2
 have hb2:Below W1.heap.size W1 W2:=by rw [←hW2];exact (((Below.refl _ _).alloc (Nat.le_refl _) _).alloc (by simp) _).alloc (by simp;omega) _
 have hm1:W2.heap[W1.heap.size]?=some (.map #[] 0):=by rw [←hW2];exact block_alloc (block_alloc (World.alloc_at _ _) _) _
 have hm2:W2.heap[W1.heap.size+1]?=some (.map #[] 0):=by rw [←hW2];have:=World.alloc_at (W1.alloc (.map #[] 0)) (.map #[] 0);rw [World.alloc_size] at this;exact block_alloc this _
 have hm3:W2.heap[W1.heap.size+1+1]?=some (.map #[] 0):=by rw [←hW2];have:=World.alloc_at ((W1.alloc (.map #[] 0)).alloc (.map #[] 0)) (.map #[] 0);rwa [World.alloc_size,World.alloc_size] at this
 have hz2:W2.heap.size=W1.heap.size+3:=by rw [←hW2];simp
 clear hW2
 have HM1:=ld hm1
 have HM2:=ld hm2
 have HM3:=ld hm3
 have HZ2:=ld hz2
 clear hm1 hm2 hm3 hz2
 have HN2:=ld (HN1.out.below hb2)
 have hb:=HN2.out.blk
 have hf:=frozen_block hb
 have c16:=nc16 hb
 have c17:=nc17 hb
 have c18:=nc18 hb
 clear hb
 go_wp2_with (fail)
 generalize hW3:((W2.setCell ⟨b,16,none⟩ (.map (some W1.heap.size))).setCell ⟨b,17,none⟩ (.map (some (W1.heap.size+1)))).setCell ⟨b,18,none⟩ (.map (some (W1.heap.size+1+1)))=W3
 have hN3:=lead_maps HN1.out rfl hb2 HZ2.out HM1.out HM2.out HM3.out
 rw [hW3] at hN3
 have hC3:Chg F w W3:=by
  rw [←hW3]
  exact chgF (chgF (chgF (((hC1.mono fun i hi=>.inl (hi▸h.hb))).below hb2) h.hb _) h.hb _) h.hb _
 clear hW3 HM1 HM2 HM3 HZ2 HN2 hb2 hf c16 c17 c18
 have hz1:=hC1.size
 have HX:=ld (show (∀ i,F i→i<w.heap.size)∧w.heap.size≤W1.heap.size from ⟨h.rest.bdF,hC1.size⟩)
 have HBZ:Hid (W1.heap.size≠b∧W1.heap.size+1≠b):=ld (by have:=HN1.out.lt;omega)
 clear HN1 hC1 h hz1
 generalize W1.heap.size=z at hN3 HX HBZ ⊢
 generalize hs1:({ s with role:=4,leader:=s.id,heir:=0,elapsed:=0,beat:=0 }:NS)=s1 at hN3
 generalize hc3:({ c with mtR:=some z,mt:=[],nxR:=some (z+1),nx:=[],hdR:=some (z+1+1),hd:=[] }:NC)=c3 at hN3
 have hpe:c3.peers=c.peers:=by rw [←hc3]
 have hid1:s1.id=s.id:=by rw [←hs1]
 have HS1:=ld hs1.symm
 have HC3:=ld hc3.symm
 clear hs1 hc3
 have HN3:=ld hN3
 clear hN3
 refine (others_new b _ _ W3 HN3.out.blk HN3.out.rest.peers (by rw [hpe];exact hl)).mono ?_
 rintro e w4 ⟨A4,k4,rfl,ho4,hb4⟩
 rw [hpe,hid1,HR.out.others] at ho4 ⊢
 generalize hos:ints (Rf.others cf p.id)=os at ho4 ⊢
 have HOS:=ld hos
 have HND:Hid os.Nodup:=ld (hos▸others_nodup cf p.id)
 have HOK:Hid (∀ q∈os,okI q):=ld (hos▸others_okI HFT.out)
 have hol:os.length≤7:=hos▸others_len HFT.out
 clear hos hpe hid1
 have HN4:=ld (HN3.out.below hb4)
 have hC4:=hC3.below hb4
 have HO4:=ld (And.intro ho4 (show ∀ i,F i∨(z≤i∧i<z+3)→i<W3.heap.size from HN3.out.rest.bdF))
 clear HN3 hC3 hb4 ho4
 have hlog:c.ln=c.log.length:=by have:=HN4.out.rest.log.ents.2.1;rw [HC3.out] at this;exact this
 have hlen:=HR.out.len
 have hl3:c3.ln=p.log.length:=by rw [HC3.out];show c.ln=_;omega
 have HLN:=ld (show (c3.ln:Int)=p.log.length∧p.log.length<65536 from ⟨by omega,HLT.out⟩)
 have HSN:Hid (s1.snap=0):=ld (by rw [HS1.out];exact HR.out.zero.1)
 have HC4:=ld hC4
 clear hlog hlen hl3 hC4
 obtain ⟨k,hk⟩:∃ k:Int,k=p.log.length:=⟨_,rfl⟩
 have hk0:0≤k:=by omega
 have hk1:k<65536:=by have:=HLN.out;omega
 have HK:=ld hk
 clear hk
 go_wp2_with (fail)
 go_loopw [3,39] (fun _ i wr=>∃ j:Nat,i=.int .i64 j∧j≤os.length∧Hid (NdAt wr (fun i=>F i∨(z≤i∧i<z+3)) G b s1 { c3 with mt:=(os.take j).map (fun q=>(q,0)),nx:=(os.take j).map (fun q=>(q,k+1)) }∧Chg F w wr∧Chg (fun i=>F i∨(z≤i∧i<z+3)) w4 wr)) (fun _ i _=>os.length-(intOf i).toNat)
 case atStart =>
  refine ⟨0,rfl,Nat.zero_le _,ld ⟨?_,HC4.out,Chg.refl⟩⟩
  have e:c3={ c3 with mt:=(os.take 0).map (fun q=>(q,0)),nx:=(os.take 0).map (fun q=>(q,k+1)) }:=by rw [HC3.out];rfl
  rw [←e];exact HN4.out
 case round =>
  obtain ⟨j,rfl,hj,HI⟩:=hrel
  have HN:=ld HI.out.1
  by_cases hlt:j<os.length
  ·have hg:=List.getElem?_eq_getElem hlt
   have hrow:RowS encI 1 wr (fun i=>W3.heap.size≤i∧i<w4.heap.size) A4 os:=HO4.out.1.keep fun i hi=>HI.out.2.2.keep hi.2 (fun hf=>by have:=HO4.out.2 i hf;omega)
   obtain ⟨ba,o,rfl,_,c0⟩:=ints_at (hrow.row (B:=w4.heap.size) fun i hi=>hi.2) hg
   have hpm:os[j]∈os:=List.getElem_mem _
   have hnot:=not_mem_take HND.out hlt
   have HQ:=ld (And.intro (HOK.out _ hpm) hnot)
   have HG:=ld hg
   clear hg hrow hpm hnot
   generalize os[j]=q at c0 HQ HG
   have hB:=HN.out.blk
   have HB:=ld (show wr.drew.heap[b]?=_ from hB)
   have c16:wr.cell? ⟨b,16,none⟩=some (.map (some z)):=by have:=nc16 hB;rw [show c3.mtR=some z by rw [HC3.out]] at this;exact this
   have c17:wr.cell? ⟨b,17,none⟩=some (.map (some (z+1))):=by have:=nc17 hB;rw [show c3.nxR=some (z+1) by rw [HC3.out]] at this;exact this
   have HM1:Hid (∀ n,MI (wr.drewN n) z ((os.take j).map fun x=>(x,0))):=ld (fun n=>by
    have:=HN.out.rest.mt
    rw [show c3.mtR=some z by rw [HC3.out]] at this
    exact this.2.same rfl)
   have W1:IntKind.i64.wrap (k+1)=k+1:=IntWalk.i64_in _ (by omega)
   have hZK:(0:Int)+(c3.ln:Int)=k:=by have:=HLN.out;have:=HK.out;omega
   clear hB
   go_wp2_with (fail)
   refine wp_region_held_drew (S:=fun W:World=>W.cell? ⟨b,16,none⟩=some (.map (some z))∧W.cell? ⟨b,17,none⟩=some (.map (some (z+1)))) (by kernel_rfl) ⟨c16,c17⟩ (fun hHeld=>?_)
   refine tkG70 0 (.pointer (some ⟨b,0,none⟩)) ?_
   refine tkG70 1 (.pointer (some ⟨b,0,none⟩)) ?_
   refine tkG70 2 (.pointer (some ⟨b,16,none⟩)) ?_
   refine tkG70 3 (.map (some z)) ?_
   refine tkG70 4 (.int .i64 q) ?_
   refine tkG70 5 (.pointer (some ⟨b,0,none⟩)) ?_
   refine tkG70 6 (.pointer (some ⟨b,0,none⟩)) ?_
   refine tkG70 7 (.pointer (some ⟨b,17,none⟩)) ?_
   refine tkG70 8 (.map (some (z+1))) ?_
   refine tkG70 9 (.int .i64 q) ?_
   refine tkG70 10 (.pointer (some ⟨b,0,none⟩)) ?_
   refine rdy 11 fun K hK=>?_
   go_simp
   refine (end_any b s1 _ wr.drew HB.out (by have:=HSN.out;omega) (by have:=HSN.out;omega) (by show c3.ln≤_;have:=HLN.out;omega)).mono ?_
   rintro e w5 ⟨rfl,nq5,rfl⟩
   rw [HSN.out]
   go_wp2_with fail
   refine hks hK ?_ fun hHeld=>?_
   ·exact ⟨c16,c17⟩
   clear hK K
   refine tkG70 12 (.int .i64 (k+1)) ?_
   obtain ⟨v6,st6,w6,w7,hr6,hr7,hM7,hg6,hg7,hz6,hz7⟩:=MapG.entry KI (HM1.out (1+nq5)) Tryz.underlying39 q HQ.out.1 0 _ zero3
   have c16':w6.cell? ⟨b,16,none⟩=some (.map (some z))∧w6.cell? ⟨b,17,none⟩=some (.map (some (z+1))):=⟨hg6.cell c16 (fun e=>HBZ.out.1 (by injection e with e;first | exact e | exact e.symm)),hg6.cell c17 (fun e=>HBZ.out.1 (by injection e with e;first | exact e | exact e.symm))⟩
   have c17':w7.cell? ⟨b,16,none⟩=some (.map (some z))∧w7.cell? ⟨b,17,none⟩=some (.map (some (z+1))):=⟨hg7.cell c16 (fun e=>HBZ.out.1 (by injection e with e;first | exact e | exact e.symm)),hg7.cell c17 (fun e=>HBZ.out.1 (by injection e with e;first | exact e | exact e.symm))⟩
   refine rdy 13 fun K hK=>?_
   refine step_entry (by rfl) 39 _ _ (by rfl) (.map (some z)) (.int .i64 q) _ w6 (by rfl) (by rfl) hr6 ?_
   refine hks hK ?_ fun hHeld=>?_
   ·exact c16'
   clear hK K
   refine tkG70 14 (.int .i64 st6) ?_
   refine rdy 15 fun K hK=>?_
   refine step_estore (by rfl) 39 _ _ _ (by rfl) (.map (some z)) (.int .i64 st6) (.int .i64 0) w7 (by rfl) (by rfl) (by rfl) hr7 ?_
   refine hks hK ?_ fun hHeld=>?_
   ·exact c17'
   clear hK K
   have HN7:=ld ((HN.out.drewN (1+nq5)).put_mt (by rw [HC3.out]) hM7 hg7)
   have hM8:MI w7 (z+1) ((os.take j).map fun x=>(x,k+1)):=by
    have:=HN7.out.rest.nx
    rw [show c3.nxR=some (z+1) by rw [HC3.out]] at this
    exact this.2
   obtain ⟨v8,st8,w8,w9,hr8,hr9,hM9,hg8,hg9,hz8,hz9⟩:=MapG.entry KI hM8 Tryz.underlying39 q HQ.out.1 (k+1) _ zero3
   have c18':w8.cell? ⟨b,16,none⟩=some (.map (some z))∧w8.cell? ⟨b,17,none⟩=some (.map (some (z+1))):=⟨hg8.cell c17'.1 (fun e=>HBZ.out.2 (by injection e with e;first | exact e | exact e.symm)),hg8.cell c17'.2 (fun e=>HBZ.out.2 (by injection e with e;first | exact e | exact e.symm))⟩
   have c19':w9.cell? ⟨b,16,none⟩=some (.map (some z))∧w9.cell? ⟨b,17,none⟩=some (.map (some (z+1))):=⟨hg9.cell c17'.1 (fun e=>HBZ.out.2 (by injection e with e;first | exact e | exact e.symm)),hg9.cell c17'.2 (fun e=>HBZ.out.2 (by injection e with e;first | exact e | exact e.symm))⟩
   refine rdy 16 fun K hK=>?_
   refine step_entry (by rfl) 39 _ _ (by rfl) (.map (some (z+1))) (.int .i64 q) _ w8 (by rfl) (by rfl) hr8 ?_
   refine hks hK ?_ fun hHeld=>?_
   ·exact c18'
   clear hK K
   refine tkG70 17 (.int .i64 st8) ?_
   refine rdy 18 fun K hK=>?_
   refine step_estore (by rfl) 39 _ _ _ (by rfl) (.map (some (z+1))) (.int .i64 st8) (.int .i64 (k+1)) w9 (by rfl) (by rfl) (by rfl) hr9 ?_
   refine hks hK ?_ fun hHeld=>?_
   ·exact c19'
   clear hK K
   refine don ?_
   go_wp2_with fail
   go_roundw
   case rel =>
    refine ⟨j+1,by go_num,by omega,ld ⟨?_,?_,?_⟩⟩
    ·have h9:=HN7.out.put_nx (by rw [HC3.out]) hM9 hg9
     have e1:(os.take (j+1))=os.take j++[q]:=by rw [List.take_add_one,HG.out];rfl
     rw [kput_new (fun _=>k+1) _ q HQ.out.2,←e1] at h9
     have e2:=kput_new (fun _:Int=>(0:Int)) (os.take j) q HQ.out.2
     rw [←e1] at e2
     rw [←e2]
     exact h9
    ·have hz4:=HC4.out.size
     have hzz:=HX.out.2
     exact ((HI.out.2.1.drewN (1+nq5)).grown hg7 (fun i hi=>.inr (by injection hi with hi;omega))).grown hg9 (fun i hi=>.inr (by injection hi with hi;omega))
    ·exact ((HI.out.2.2.drewN (1+nq5)).grown hg7 (fun i hi=>.inl (.inr (by injection hi with hi;omega)))).grown hg9 (fun i hi=>.inl (.inr (by injection hi with hi;omega)))
   case measure=>simp [intOf];omega
  ·have hjl:j=os.length:=by omega
   subst hjl
   rw [List.take_length] at HN
   generalize hc5:({ c3 with mt:=os.map (fun q=>(q,0)),nx:=os.map (fun q=>(q,k+1)) }:NC)=c5 at HN
   have HC5:=ld hc5.symm
   have hl5:c5.ln=c3.ln∧c5.log=c.log:=by rw [←hc5];refine ⟨rfl,?_⟩;rw [HC3.out]
   have HL5:=ld hl5
   clear hc5 hl5
   have HCW:=ld HI.out.2.1
   clear HI HO4
   have hZK:(0:Int)+(c5.ln:Int)=k:=by have:=HLN.out;have:=HK.out;have:=HL5.out.1;omega
   go_wp2_with (fail)
   refine (end_any b s1 _ wr HN.out.blk (by have:=HSN.out;omega) (by have:=HSN.out;omega) (by show c5.ln≤_;have:=HLN.out;have:=HL5.out;omega)).mono ?_
   rintro e w5 ⟨rfl,nq5,rfl⟩
   rw [HSN.out]
   have hb5:(wr.drewN nq5).heap[b]?=_:=HN.out.blk
   have HN5:=ld (HN.out.drewN nq5)
   have hC5:=HCW.out.drewN nq5
   clear HN HCW
   generalize wr.drewN nq5=w5 at HN5 hC5 hb5 ⊢
   have c6:=nc6 hb5
   have ht1:s1.term=s.term:=by rw [HS1.out]
   go_wp2_with (fail)
   have B56:=ld hb5
   clear hb5
   have hs0:s1.snap=0:=HSN.out
   have h0':-4611686018427387904≤s1.snap:=by omega
   have hsn':s1.snap≤4611686018427387904:=by omega
   have hsn0:0≤s1.snap:=by omega
   have hsn2:s1.snap≤2199023255552:=by omega
   have hl4':c5.ln≤4611686018427387:=by have:=HLN.out;have:=HL5.out;omega
   have HL7:=ld (show c5.log.length≤70000 by have:=HLN.out;have:=HL5.out.2;have:=HR.out.len;rw [HL5.out.2];omega)
   have HNE:=ld (show w5.heap.size<w5.heap.size+1∧w5.heap.size≠b from ⟨Nat.lt_succ_self _,fun e=>by have:=HN5.out.lt;omega⟩)
   have HJ:=ld (fun nq=>join_any b _ _ _ G _ (HN5.out.below ((below_drewN' (Below.refl w5.heap.size w5) nq).alloc (Nat.le_refl _) (.cells #[.int .i64 (k+1),.int .i64 s1.term,.slice none 0 0] 67))) (some ⟨w5.heap.size,0,none⟩) 1 1 [(⟨k+1,s1.term,none,0,0⟩,[])] (fun i=>i=w5.heap.size∨False)
    (ents_one _ _ _ none 0 0 [] (fun _=>False) (fun _ h=>h.elim) (.inl rfl) rfl (by decide)) (fun i hi=>hi.elim (fun e=>e▸⟨by simp,HNE.out.2⟩) False.elim) rfl (by simp) HL7.out hsn0 hsn2)
   have W1:IntKind.i64.wrap (k+1)=k+1:=IntWalk.i64_in _ (by omega)
   have HSZ:=ld hs0
   clear hs0 ht1
   go_region_held3 (fun w'=>w'.cell? ⟨b,6,none⟩=some (.int .i64 s1.term))
    (first | go_keep | (go_split_ands;exact (nc6 HN7.blk).trans (congrArg (fun x=>some (Value.int .i64 x)) (turned_term _ _))))
    (first
     | (go_at_call 57;refine (end_any b s1 c5 w5.drew B56.out h0' hsn' hl4').mono ?_;rintro e w6 ⟨rfl,nq6,rfl⟩;rw [HSZ.out])
     | (go_at_call 104;refine (HJ.out _).mono ?_;rintro e w7 ⟨rfl,F7,c7,HN7,hq7,hc7,hC7,hF7,hF7'⟩;rw [if_neg (List.cons_ne_nil _ _)] at HN7))
   have HN7':=ld HN7
   have HX7:=ld (And.intro hq7 (And.intro hc7 (And.intro hF7 hF7')))
   have hC8:Chg F w w7:=((hC5.drewN _).alloc _).trans2 hC7 fun i hi=>by
    have:=HX.out.2
    rcases hi with h | h
    ·exact .inl h
    ·right;omega
   have HC8:=ld hC8
   have hz5:=hC5.size
   have HZ5:=ld hz5
   clear HN7 hq7 hc7 hF7 hF7' hC7 hC8 hC5 hz5 W1
   have hnode:NodeAt w7 F7 G b cf draw l0 p.led1 ms:=by
    have hR:=HR.out
    have hkk:=HK.out
    have hc7:=HX7.out.2.1
    have ep:(ints (Rf.others cf p.id))=os:=HOS.out
    refine ⟨_,c7,HN7'.out,?_,?_,?_⟩
    ·refine ⟨?_,?_,?_,?_,?_,?_,?_,?_,?_,?_,fun _=>⟨?_,?_,?_,?_⟩,fun h=>absurd (show (4:Nat)=2∨(4:Nat)=3 from h) (by decide),fun h=>absurd (show (4:Nat)=3 from h) (by decide),?_⟩
     all_goals (try rw [hc7])
     all_goals (try rw [HC5.out])
     all_goals (try rw [HC3.out])
     ·rw [turned_id,HS1.out];exact hR.id
     ·rw [HS1.out];unfold NS.turned;split <;> exact hR.cfg
     ·rw [HS1.out];unfold NS.turned;split <;> exact hR.hard
     ·rw [HS1.out];unfold NS.turned;split <;> exact ⟨hR.zero.1,hR.zero.2.1,rfl⟩
     ·rw [HS1.out];unfold NS.turned;split <;> exact hR.commit
     ·rw [HS1.out];unfold NS.turned;split <;> exact ⟨rfl,hR.id⟩
     ·rw [HS1.out];unfold NS.turned;split <;> exact ⟨rfl,hR.time.2.1,rfl⟩
     ·rw [HS1.out];unfold NS.turned;split <;> exact hR.draw
     ·exact hR.peers
     ·have:=HX7.out.1
      rw [hc7] at this
      refine this.trans ?_
      rw [HL5.out.2,hR.log]
      show _=numb 0 (p.log++[⟨p.term,[]⟩])
      rw [numb_append,numb_one,Nat.zero_add]
      congr 1
      simp only [List.map_cons,List.map_nil,con]
      rw [hkk,HS1.out]
      show [(⟨(p.log.length:Int)+1,s.term,[]⟩:E)]=_
      rw [hR.hard.1]
     ·exact ⟨z,z+1,z+1+1,rfl,rfl,rfl⟩
     ·show os.map _=_
      rw [←ep];unfold ints;rw [List.map_map];rfl
     ·show os.map _=_
      rw [←ep];unfold ints;rw [List.map_map,hkk];rfl
     ·rfl
     ·exact hR.sn
    ·rw [show c7.msgs=c.msgs by rw [hc7,HC5.out,HC3.out]];exact HMS.out
    ·have:=from_app HFR.out ([⟨p.term,[]⟩]:List Rf.Ent)
     have e:(s1.turned (s1.snap+(c5.log.length:Int)+1)).from_=if s.from_=0∨(p.log.length:Int)+1<s.from_ then (p.log.length:Int)+1 else s.from_:=by
      rw [HSZ.out,HL5.out.2,hR.len,HS1.out]
      unfold NS.turned
      simp only [Int.zero_add]
      split <;> rfl
     rw [e];exact this
   have hgrew:Grew w w7 F G F7 G:=by
    have h1:=HX7.out.2.2.1
    have h2:=HX7.out.2.2.2
    have hz5:=HZ5.out
    refine Grew.ofChg HC8.out (fun i hi=>h1 i (.inl hi)) (fun i hi=>?_)
    rcases h2 i hi with (h | h) | h
    ·exact .inl h
    ·right;have:=HX.out.2;omega
    ·right;simp at h;omega
   have hfit:Fits cf p.led1:=by
    have h:=HFT.out
    refine ⟨h.n,h.time,h.batch,h.id,?_,h.term,?_⟩
    ·show (p.log++[_]).length≤_
     rw [List.length_append];have:=HLT.out;simp;omega
    ·show p.commit≤(p.log++[_]).length
     rw [List.length_append];have:=h.commit;omega
   have HND7:=ld hnode
   have HGR7:=ld hgrew
   have HFI:=ld hfit
   clear hnode hgrew hfit
   go_wp2_with (fail)
   refine (count_at HND7.out HFI.out rfl).mono ?_
   rintro e w8 ⟨rfl,F8,G8,hn8,hg8⟩
   have HND8:=ld hn8
   have HGR8:=ld (HGR7.out.trans hg8)
   clear hn8 hg8
   go_wp2_with (fail)
   refine (apps_any HND8.out (Rf.count_fits HFI.out) rfl (fun q _=>?_) (by have:=HML.out;omega)).mono ?_
   ·show 1≤p.log.length+1∧p.log.length+1≤(p.log++[_]).length+1
    rw [List.length_append];omega
   rintro e w9 ⟨rfl,F9,G9,hn9,hg9⟩
   have HND9:=ld hn9
   have HGR9:=ld (HGR8.out.trans hg9)
   clear hn9 hg9
   go_wp2
   go_end0
   refine ⟨rfl,F9,G9,?_,HGR9.out⟩
   rw [Rf.lead_led1 HLT.out]
   exact HND9.out
section
variable {w w1 w2:World} {F G:Nat→Prop} {b:Nat} {cf:Rf.Cfg} {draw:Int} {l0:List Rf.Ent} {p:Rf.Nd} {ms:List Rf.Msg}
theorem NodeAt.arr (h:NodeAt w F G b cf draw l0 p ms):∃ arr,w.heap[b]?=some (.cells arr 126 (0,0)):=by
 obtain ⟨s,c,hN,_⟩:=h;exact ⟨_,hN.blk⟩
theorem NodeAt.lt (h:NodeAt w F G b cf draw l0 p ms):b<w.heap.size:=by
 obtain ⟨s,c,hN,_⟩:=h;exact hN.lt
theorem NodeAt.hb (h:NodeAt w F G b cf draw l0 p ms):F b:=by
 obtain ⟨s,c,hN,_⟩:=h;exact hN.hb
theorem NodeAt.bd (h:NodeAt w F G b cf draw l0 p ms):(∀ i,F i→i<w.heap.size)∧(∀ i,G i→i<w.heap.size)∧∀ i,F i→¬ G i:=by
 obtain ⟨s,c,hN,_⟩:=h;exact ⟨hN.rest.bdF,hN.rest.bdG,hN.rest.dis⟩
theorem NodeAt.c0 (h:NodeAt w F G b cf draw l0 p ms):w.cell? ⟨b,0,none⟩=some (.int .i64 p.id):=by
 obtain ⟨s,c,hN,hR,_⟩:=h;rw [←hR.id];exact nc0 hN.blk
theorem NodeAt.c2 (h:NodeAt w F G b cf draw l0 p ms):w.cell? ⟨b,2,none⟩=some (.int .i64 cf.least):=by
 obtain ⟨s,c,hN,hR,_⟩:=h;rw [←hR.cfg.1];exact nc2 hN.blk
theorem NodeAt.c3 (h:NodeAt w F G b cf draw l0 p ms):w.cell? ⟨b,3,none⟩=some (.int .i64 cf.most):=by
 obtain ⟨s,c,hN,hR,_⟩:=h;rw [←hR.cfg.2.1];exact nc3 hN.blk
theorem NodeAt.c4 (h:NodeAt w F G b cf draw l0 p ms):w.cell? ⟨b,4,none⟩=some (.int .i64 cf.beat):=by
 obtain ⟨s,c,hN,hR,_⟩:=h;rw [←hR.cfg.2.2.1];exact nc4 hN.blk
theorem NodeAt.c6 (h:NodeAt w F G b cf draw l0 p ms):w.cell? ⟨b,6,none⟩=some (.int .i64 p.term):=by
 obtain ⟨s,c,hN,hR,_⟩:=h;rw [←hR.hard.1];exact nc6 hN.blk
theorem NodeAt.c7 (h:NodeAt w F G b cf draw l0 p ms):w.cell? ⟨b,7,none⟩=some (.int .i64 p.vote):=by
 obtain ⟨s,c,hN,hR,_⟩:=h;rw [←hR.hard.2];exact nc7 hN.blk
theorem NodeAt.c9 (h:NodeAt w F G b cf draw l0 p ms):w.cell? ⟨b,9,none⟩=some (.int .i64 0):=by
 obtain ⟨s,c,hN,hR,_⟩:=h;rw [←hR.zero.1];exact nc9 hN.blk
theorem NodeAt.c11 (h:NodeAt w F G b cf draw l0 p ms):w.cell? ⟨b,11,none⟩=some (.int .i64 p.commit):=by
 obtain ⟨s,c,hN,hR,_⟩:=h;rw [←hR.commit];exact nc11 hN.blk
theorem NodeAt.c12 (h:NodeAt w F G b cf draw l0 p ms):w.cell? ⟨b,12,none⟩=some (.int .i64 p.role):=by
 obtain ⟨s,c,hN,hR,_⟩:=h;rw [←hR.role.1];exact nc12 hN.blk
theorem NodeAt.c13 (h:NodeAt w F G b cf draw l0 p ms):w.cell? ⟨b,13,none⟩=some (.int .i64 p.leader):=by
 obtain ⟨s,c,hN,hR,_⟩:=h;rw [←hR.role.2];exact nc13 hN.blk
theorem NodeAt.c14 (h:NodeAt w F G b cf draw l0 p ms):w.cell? ⟨b,14,none⟩=some (.int .i64 p.elapsed):=by
 obtain ⟨s,c,hN,hR,_⟩:=h;rw [←hR.time.1];exact nc14 hN.blk
theorem NodeAt.c15 (h:NodeAt w F G b cf draw l0 p ms):w.cell? ⟨b,15,none⟩=some (.int .i64 p.timeout):=by
 obtain ⟨s,c,hN,hR,_⟩:=h;rw [←hR.time.2.1];exact nc15 hN.blk
theorem NodeAt.c19 (h:NodeAt w F G b cf draw l0 p ms):w.cell? ⟨b,19,none⟩=some (.int .i64 p.beat):=by
 obtain ⟨s,c,hN,hR,_⟩:=h;rw [←hR.time.2.2];exact nc19 hN.blk
theorem NodeAt.c20 (h:NodeAt w F G b cf draw l0 p ms):w.cell? ⟨b,20,none⟩=some (.int .i64 0):=by
 obtain ⟨s,c,hN,hR,_⟩:=h;rw [←hR.zero.2.2];exact nc20 hN.blk
theorem After.of {w w' w'':World} {F' G':Nat→Prop} {p':Rf.Nd} {ms':List Rf.Msg} (h:Grew w w' F G F' G') (k:After w' w'' F' G' b cf draw l0 p' ms'):After w w'' F G b cf draw l0 p' ms':=by
 obtain ⟨F2,G2,k1,k2⟩:=k;exact ⟨F2,G2,k1,h.trans k2⟩
theorem end_at (h:NodeAt w F G b cf draw l0 p ms) (hf:Fits cf p):Calls Tryz.prog 57 #[.pointer (some ⟨b,0,none⟩)] w fun e w'=>e=.returned (.int .i64 p.log.length)∧∃ n,w'=w.drewN n:=by
 obtain ⟨s,c,hN,hR,_⟩:=h
 have h1:=hN.rest.log.ents.2.1
 have h2:=hR.len
 have h3:=hR.zero.1
 have h4:=hf.fin
 refine (end_any b s c w hN.blk (by omega) (by omega) (by omega)).mono ?_
 rintro e w' ⟨rfl,hn⟩
 exact ⟨by rw [show s.snap+(c.ln:Int)=p.log.length by omega],hn⟩
theorem term_at (h:NodeAt w F G b cf draw l0 p ms) (hf:Fits cf p) {i:Nat} (hi:i≤p.log.length):Calls Tryz.prog 107 #[.pointer (some ⟨b,0,none⟩),.int .i64 i] w fun e w'=>e=.returned (.int .i64 (p.tm i:Nat))∧∃ n,w'=w.drewN n:=by
 obtain ⟨s,c,hN,hR,_⟩:=h
 have h2:=hR.len
 have h3:=hR.zero.1
 have h4:=hf.fin
 refine (term_any b s c i F G w hN (by omega) (by omega) (by omega) (by omega) (by omega)).mono ?_
 rintro e w' ⟨rfl,hn⟩
 exact ⟨by rw [lterm_tm hR hi],hn⟩
theorem majority_at (h:NodeAt w F G b cf draw l0 p ms) (k:Nat) (hk:k≤1000):Calls Tryz.prog 96 #[.pointer (some ⟨b,0,none⟩),.int .i64 k] w fun e w'=>e=.returned (.bool (Rf.maj cf k))∧w'=w:=by
 obtain ⟨s,c,hN,hR,_⟩:=h
 have hpn:=(Own.cap hN.rest.peers).1
 have hpl:=hR.pl
 refine (majority_any b s c k w hN.blk (by omega) (by omega)).mono ?_
 rintro e w' ⟨rfl,rfl⟩
 refine ⟨?_,rfl⟩
 unfold Rf.maj
 congr 3
 rw [eq_iff_iff]
 omega
theorem rest_rel {s:NS} {c:NC} (h:Rel cf draw s c p) (hf:2≤cf.least∧cf.least≤cf.most∧cf.most≤100∧1≤cf.beat∧cf.beat≤100):Rel cf draw s.rest c (Rf.rest cf draw p):=by
 refine ⟨h.id,h.cfg,h.hard,h.zero,h.commit,h.role,⟨rfl,?_,h.time.2.2⟩,h.draw,h.peers,h.log,h.lead,h.gr,h.rf,h.sn⟩
 show s.least+s.draw % (s.most-s.least+1)=((Rf.rnd cf draw:Nat):Int)
 unfold Rf.rnd
 have h1:=hf
 have h2:=Int.emod_nonneg draw (show (cf.most:Int)-cf.least+1≠0 by omega)
 rw [h.cfg.1,h.cfg.2.1,h.draw]
 omega
theorem rest_at (h:NodeAt w F G b cf draw l0 p ms) (hf:Fits cf p):Calls Tryz.prog 66 #[.pointer (some ⟨b,0,none⟩)] w fun e w'=>e=.returned (.tuple #[])∧After w w' F G b cf draw l0 (Rf.rest cf draw p) ms:=by
 have h':=h
 obtain ⟨s,c,hN,hR,_⟩:=h
 have h1:=hf.time
 refine (rest_any b s c w hN.blk (by have:=hR.cfg;omega) (by have:=hR.cfg;omega) (by have:=hR.cfg;omega)).mono ?_
 rintro e w' ⟨rfl,hC,hB⟩
 exact ⟨rfl,F,G,⟨s.rest,c,hN.scal hC hB,rest_rel hR hf.time,by rename_i x;exact x.1,by rename_i x;exact x.2⟩,Grew.ofChg (hC.mono fun i hi=>.inl (hi▸hN.hb)) (fun _ h=>h) fun _ h=>.inl h⟩
theorem follow_at (h:NodeAt w F G b cf draw l0 p ms) (hf:Fits cf p) (t l:Nat):Calls Tryz.prog 97 #[.pointer (some ⟨b,0,none⟩),.int .i64 t,.int .i64 l] w fun e w'=>e=.returned (.tuple #[])∧After w w' F G b cf draw l0 (Rf.follow cf draw t l p) ms:=by
 obtain ⟨s,c,hN,hR,hM,hF⟩:=h
 have h1:=hf.time
 refine (follow_any b s c t l w hN.blk (by have:=hR.cfg;omega) (by have:=hR.cfg;omega) (by have:=hR.cfg;omega)).mono ?_
 rintro e w' ⟨rfl,hC,hB⟩
 refine ⟨rfl,F,G,⟨s.follow t l,c,hN.scal hC hB,?_,hM,hF⟩,Grew.ofChg (hC.mono fun i hi=>.inl (hi▸hN.hb)) (fun _ h=>h) fun _ h=>.inl h⟩
 unfold NS.follow Rf.follow
 refine rest_rel (p:={ p with role:=1,term:=max p.term t,vote:=if p.term<t then 0 else p.vote,leader:=l }) ⟨hR.id,hR.cfg,⟨?_,?_⟩,⟨hR.zero.1,hR.zero.2.1,rfl⟩,hR.commit,⟨rfl,rfl⟩,hR.time,hR.draw,hR.peers,hR.log,fun h=>absurd (show (1:Nat)=4 from h) (by decide),fun h=>absurd (show (1:Nat)=2∨(1:Nat)=3 from h) (by decide),fun h=>absurd (show (1:Nat)=3 from h) (by decide),hR.sn⟩ hf.time
 ·show (if s.term<(t:Int) then (t:Int) else s.term)=((max p.term t:Nat):Int)
  have:=hR.hard.1
  split <;> omega
 ·show (if s.term<(t:Int) then (0:Int) else s.vote)=((if p.term<t then 0 else p.vote:Nat):Int)
  have h1:=hR.hard.1
  have h2:=hR.hard.2
  by_cases h:p.term<t
  ·rw [if_pos (by omega),if_pos h];rfl
  ·rw [if_neg (by omega),if_neg h];exact h2
theorem stuck_at (h:NodeAt w F G b cf draw l0 p ms) (hf:Fits cf p):Calls Tryz.prog 136 #[.pointer (some ⟨b,0,none⟩)] w fun e w'=>e=.returned (.bool (Rf.stuck p))∧∃ n,w'=w.drewN n:=by
 obtain ⟨s,c,hN,hR,_⟩:=h
 have h1:=hN.rest.log.ents.2.1
 have h2:=hR.len
 have h3:=hR.zero.1
 have h4:=hf.fin
 have h5:=hf.term
 have h6:=hR.hard.1
 refine (stuck_any b s c w hN.blk (by omega) (by omega) (by omega)).mono ?_
 rintro e w' ⟨rfl,hn⟩
 refine ⟨?_,hn⟩
 have e1:stuckB s c.ln=Rf.stuck p:=by
  unfold stuckB Rf.stuck Rf.Nd.fin
  rw [Bool.eq_iff_iff]
  simp
  omega
 rw [e1]
theorem send_at (h:NodeAt w F G b cf draw l0 p ms) (hml:ms.length≤900) (m:MR) (x:Rf.Msg) (h1:m.eA=none) (h2:m.en=0) (h3:m.ec=0) (dst:Int) (hx:(m.sent p.id dst p.term).pm []=pmR x) :
  Calls Tryz.prog 138 #[.pointer (some ⟨b,0,none⟩),.int .i64 dst,msgV m] w fun e w'=>e=.returned (.tuple #[])∧After w w' F G b cf draw l0 p (ms++[x]):=by
 obtain ⟨s,c,hN,hR,hM,hF⟩:=h
 have hlen:=congrArg List.length hM
 simp only [List.length_map] at hlen
 refine (send_any b s c F G (fun _=>False) w hN dst m [] (by rw [h1,h2,h3];exact EntsF.nil) (fun _ h=>h.elim) (fun _ h=>h.elim) (by omega)).mono ?_
 rintro e w' ⟨rfl,G',c',hN',hm',hc',hC',hG1,hG2⟩
 refine ⟨rfl,NodeAt.said hR hM hF ⟨hN',hc',hC',hG1,fun i hi=>?_⟩ ?_ hN.hb⟩
 ·rcases hG2 i hi with h | h | h
  ·exact .inl h
  ·exact h.elim
  ·exact .inr h
 ·rw [hm',List.map_append]
  congr 1
  show [_]=[_]
  rw [←hx,←hR.id,←hR.hard.1];rfl
end
end Go.Proofs.YtocogcgnahbpkaaGreat
