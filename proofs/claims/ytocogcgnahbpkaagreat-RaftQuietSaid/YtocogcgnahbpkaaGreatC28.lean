import Derived.Test.YtocogcgnahbpkaaGreatC12
import Derived.Test.YtocogcgnahbpkaaGreatC27
namespace Go.Proofs.YtocogcgnahbpkaaGreat
open Go.RowKit
section
variable {P:Program} {ops:Array Oper} {Q:Exit→Act→World→Prop} {md:Region.Mode} {S:World→Prop} {oi:Oper} {fuel:Nat} {listed l':Array Bool} {a a':Act} {w:World}
theorem tkG210 (i:Nat) (v:Value) (h:wpAnyH P md ops Q S fuel l' a' w) (hh:Tk ops Q md S oi listed l' a a' w i v:=by exact tkm) (hw:Region.wanted oi (yielded ops a.tmps)=true:=by rfl) (hv:∀ w,S w→(execOp a.eval oi).run P w=.ok (.value v) w:=by
  intro w hSw;obtain ⟨hS1,hS2⟩:=hSw;obtain ⟨d0,d1,d2,d3,d4,d5,d6,d7,d8,d9⟩:=hS1.d;go_simp):wpAnyH P md ops Q S (fuel+1) listed a w:=tk i v hv h hh hw
theorem tkG211 (i:Nat) (v:Value) (h:wpAnyH P md ops Q S fuel l' a' w) (hh:Tk ops Q md S oi listed l' a a' w i v:=by exact tkm) (hw:Region.wanted oi (yielded ops a.tmps)=true:=by rfl) (hv:∀ w,S w→(execOp a.eval oi).run P w=.ok (.value v) w:=by
  intro w hSw;obtain ⟨d0,d1,d2,d3,d4,d5,d6,d7,d8,d9⟩:=BoxAt.d hSw;go_simp):wpAnyH P md ops Q S (fuel+1) listed a w:=tk i v hv h hh hw
theorem tkG212 (i:Nat) (v:Value) (h:wpAnyH P md ops Q S fuel l' a' w) (hh:Tk ops Q md S oi listed l' a a' w i v:=by exact tkm) (hw:Region.wanted oi (yielded ops a.tmps)=true:=by rfl) (hv:∀ w,S w→(execOp a.eval oi).run P w=.ok (.value v) w:=by
  intro w hSw;obtain ⟨hS1,hS2⟩:=hSw;have s0:w.cell? ⟨y,0,none⟩=some (.int .i64 ((j:Int)+1)):=cell_block hS1 0 _ rfl;go_simp):wpAnyH P md ops Q S (fuel+1) listed a w:=tk i v hv h hh hw
end
section
variable {w w1 w2:World} {F G:Nat→Prop} {b:Nat} {cf:Rf.Cfg} {draw:Int} {l0:List Rf.Ent} {p:Rf.Nd} {ms:List Rf.Msg}
theorem Rf.merge_hit {log:List Rf.Ent} {i:Nat} {e:Rf.Ent} {es:List Rf.Ent} (h:i<log.length) (ht:Rf.tmL log (i+1)=e.term):Rf.merge log i (e :: es)=Rf.merge log (i+1) es:=by
 unfold Rf.tmL at ht
 rw [if_neg (Nat.succ_ne_zero i),Nat.add_sub_cancel,List.getElem?_eq_getElem h] at ht
 rw [Rf.merge,List.getElem?_eq_getElem h]
 exact if_pos (congrArg some ht)
theorem Rf.merge_miss {log:List Rf.Ent} {i:Nat} {e:Rf.Ent} {es:List Rf.Ent} (h:log.length≤i∨Rf.tmL log (i+1)≠e.term) (hl:log.length+(es.length+1)≤65536):Rf.merge log i (e :: es)=(log.take i++e :: es,i+(es.length+1)):=by
 have hne:¬ (log[i]?).map (·.term)=some e.term:=by
  rcases Nat.lt_or_ge i log.length with h1 | h1
  ·rw [List.getElem?_eq_getElem h1]
   intro h2
   injection h2 with h2
   rcases h with h | h
   ·omega
   ·refine h ?_
    unfold Rf.tmL
    rw [if_neg (Nat.succ_ne_zero i),Nat.add_sub_cancel,List.getElem?_eq_getElem h1]
    exact h2
  ·rw [List.getElem?_eq_none h1];intro h2;cases h2
 rw [Rf.merge,if_neg hne]
 have h3:(e :: es).take (65536-(log.take i).length)=e :: es:=List.take_of_length_le (by rw [List.length_take,List.length_cons];omega)
 simp only [h3,List.length_cons]
set_option maxRecDepth 100000 in
set_option maxHeartbeats 4000000 in
theorem append_any (h:NodeAt w F G b cf draw l0 p ms) (hf:Fits cf p) (hml:ms.length≤400) (m:Rf.Msg) (A:Option Addr) (n c:Nat) (htm:m.term≤1000000) (hz0:m.idx=0→m.lt=0) (hix:m.idx≤1000000) (S:Nat→Prop) (qs:List (LE×List Int)) (hE:EntsS w S A qs) (hS:Apart w S F G) (hqs:qs.map con=numb m.idx m.es) (hn:n=qs.length) (hnc:n≤c) (hes:m.es.length≤16) (hll:p.log.length+16≤65536) :
  Calls Tryz.prog 144 #[.pointer (some ⟨b,0,none⟩),msgV (mrOf m A n c)] w fun e w'=>e=.returned (.tuple #[])∧After w w' F G b cf draw l0 (Rf.append cf draw m p).1 (ms++(Rf.append cf draw m p).2):=by
 rw [msgV_eq]
 have HND:=ld (h.below (below_one w (boxO m A n c)))
 have HBX:=ld (BoxAt.made w m A n c)
 have HGR:=ld ((Grew.refl (w:=w) (F:=F) (G:=G)).below (below_one w (boxO m A n c)))
 have HF:=ld hf
 have HML:=ld hml
 obtain ⟨z,hz⟩:∃ z,z=w.heap.size:=⟨_,rfl⟩
 have HFZ:Hid (¬ (F z∨G z)):=ld (BoxAt.fresh h hz)
 rw [←hz] at HBX
 have hbl:b<(w.alloc (boxO m A n c)).heap.size:=HND.out.lt
 have HAP:Hid (Apart (w.alloc (boxO m A n c)) S F G):=ld (hS.grew HGR.out)
 have HEN:Hid (EntsS (w.alloc (boxO m A n c)) S A qs):=ld (hE.grew hS HGR.out)
 have HQS:=ld hqs
 have HNN:=ld (And.intro hn hnc)
 have HES:=ld hes
 have HZ0:=ld hz0
 have HLL:=ld hll
 have HIX:=ld hix
 have HTM:=ld htm
 have hlen:n=m.es.length:=by have:=congrArg List.length hqs;rw [List.length_map,numb_len] at this;omega
 have HLEN:=ld hlen
 clear h hf hml htm hz0 hix hE hS hqs hn hnc hes hll hlen
 obtain ⟨p1,hp1⟩:∃ p1,p1=Rf.follow cf draw m.term m.src p:=⟨_,rfl⟩
 have HP1:=ld hp1
 have HF1:Hid (Fits cf p1):=ld (by
  rw [hp1]
  exact ⟨HF.out.n,HF.out.time,HF.out.batch,HF.out.id,HF.out.fin,by show max p.term m.term≤_;have:=HF.out.term;have:=HTM.out;omega,HF.out.commit⟩)
 have HL1:Hid (p1.log=p.log):=ld (by rw [hp1];rfl)
 clear hp1
 have HAPP:Hid (Rf.append cf draw m p=if m.idx<p1.commit then (p1,[Rf.re p1 m 6 p1.term p1.commit false 0]) else if p1.log.length<m.idx then (p1,[Rf.re p1 m 6 p1.term m.idx true p1.log.length]) else if p1.tm m.idx≠m.lt then (p1,[Rf.re p1 m 6 p1.term m.idx true (m.idx-1)]) else
   ({ p1 with log:=(Rf.merge p1.log m.idx m.es).1,commit:=max p1.commit (min m.commit (Rf.merge p1.log m.idx m.es).2) },[Rf.re { p1 with log:=(Rf.merge p1.log m.idx m.es).1,commit:=max p1.commit (min m.commit (Rf.merge p1.log m.idx m.es).2) } m 6 p1.term (Rf.merge p1.log m.idx m.es).2 false 0])):=ld (by
  rw [HP1.out];rfl)
 go_enter Tryz.func144,Tryz.ntmps144
 go_upto_region 1 with (fail)
 rw [←hz,show w.alloc (.cells #[.int .i64 m.kind,.int .i64 m.src,.int .i64 m.dst,.int .i64 m.term,.int .i64 m.idx,.int .i64 m.lt,.int .i64 m.commit,.slice A n c,.bool m.rej,.int .i64 m.hint] 59)=w.alloc (boxO m A n c) from rfl]
 generalize w.alloc (boxO m A n c)=W at HND HGR HBX HAP HEN ⊢
 clear hz
 obtain ⟨d0,d1,d2,d3,d4,d5,d6,d7,d8,d9⟩:=HBX.out.d
 clear d0 d2 d4 d5 d6 d7 d8 d9
 go_wp2_with (fail)
 refine (follow_at' HND.out HF.out m.term m.src).mono ?_
 rintro e w1 ⟨rfl,hn1,hg1⟩
 rw [←HP1.out] at hn1
 have ND1:=ld hn1
 have HAP1:=ld (HAP.out.grew hg1)
 have HEN1:=ld (HEN.out.grew HAP.out hg1)
 have BX1:=ld (HBX.out.grew HFZ.out hg1)
 have GR1:=ld (HGR.out.trans hg1)
 clear HND HAP HEN HBX HGR HFZ hn1 hg1 d1 d3 hbl
 have hbl:=ND1.out.lt
 by_cases q1:m.idx<p1.commit
 ·have b1:(m.idx:Int)<(p1.commit:Int):=by omega
  have HE:Hid (Rf.append cf draw m p=(p1,[Rf.re p1 m 6 p1.term p1.commit false 0])):=ld (by rw [HAPP.out,if_pos q1])
  have HZF:Hid (¬ (F z∨G z)):=ld BX1.out.2
  obtain ⟨d0,d1,d2,d3,d4,d5,d6,d7,d8,d9⟩:=BX1.out.1.d
  clear d0 d1 d2 d3 d5 d6 d7 d8 d9
  have c11:=ND1.out.c11
  go_wp2_with (fail)
  go_quiet (fail)
  go_wp2_with (fail)
  have ND2:=ld (ND1.out.drewN nq)
  have GR2:=ld (GR1.out.below (below_drewN' (Below.refl _ _) nq))
  have BX2:Hid (BoxAt (w1.drewN nq) z m A n c):=ld BX1.out.1
  clear ND1 GR1 BX1 c11 d4 b1 q1
  generalize w1.drewN nq=W2 at ND2 GR2 BX2 ⊢
  have BXd:Hid (BoxAt W2.drew z m A n c):=ld BX2.out
  have c11:W2.drew.cell? ⟨b,11,none⟩=some (.int .i64 (p1.commit:Int)):=(ND2.out.drewN 1).c11
  have hbl2:=ND2.out.lt
  refine wp_region_held_drew (S:=fun W:World=>BoxAt W z m A n c∧W.cell? ⟨b,11,none⟩=some (.int .i64 (p1.commit:Int))) (by kernel_rfl) ⟨BXd.out,c11⟩ (fun hHeld=>?_)
  refine tkG210 0 (.pointer (some ⟨b,0,none⟩)) ?_
  refine tkG210 1 (.agg #[.int .i64 m.kind,.int .i64 m.src,.int .i64 m.dst,.int .i64 m.term,.int .i64 m.idx,.int .i64 m.lt,.int .i64 m.commit,.slice A n c,.bool m.rej,.int .i64 m.hint]) ?_
  refine tkG210 2 (.pointer (some ⟨b,0,none⟩)) ?_
  refine tkG210 3 (.pointer (some ⟨b,0,none⟩)) ?_
  refine tkG210 4 (.pointer (some ⟨b,11,none⟩)) ?_
  refine tkG210 5 (.int .i64 (p1.commit:Int)) ?_
  refine rdy 6 fun K hK=>?_
  go_simp
  refine (reply_any (show NodeAt W2.drew F G b cf draw l0 p1 ms from ND2.out.drewN 1) (by have:=HML.out;omega) m A n c p1.commit).mono ?_
  rintro e w5 ⟨rfl,F5,G5,hn5,hg5⟩
  have ND5:=ld hn5
  have hgd:Grew w W2.drew F G F G:=GR2.out.below (below_drewN' (Below.refl _ _) 1)
  have GR5:=ld (hgd.trans hg5)
  have BX5:=ld (BXd.out.grew (fun h=>HZF.out h) hg5).1
  have c115:=ND5.out.c11
  clear hn5 hg5 hgd
  go_wp2_with fail
  refine hks hK ?_ fun hHeld=>?_
  ·exact ⟨BX5.out,c115⟩
  clear hK K
  refine don ?_
  clear hHeld
  go_wp2
  refine bodyPost_ret (results_none rfl _ _ _) rfl ?_
  rw [HE.out]
  exact ⟨rfl,F5,G5,ND5.out,GR5.out⟩
 ·have b1:¬ (m.idx:Int)<(p1.commit:Int):=by omega
  have HQ1:=ld q1
  obtain ⟨d0,d1,d2,d3,d4,d5,d6,d7,d8,d9⟩:=BX1.out.1.d
  clear d0 d1 d2 d3 d6 d7 d8 d9
  have c11:=ND1.out.c11
  go_wp2_with (fail)
  go_quiet (fail)
  go_wp2_with (fail)
  have ND2:=ld (ND1.out.drewN nq)
  have GR2:=ld (GR1.out.below (below_drewN' (Below.refl _ _) nq))
  have BX2:Hid (BoxAt (w1.drewN nq) z m A n c∧¬ (F z∨G z)):=ld BX1.out
  have EN2:Hid (EntsS (w1.drewN nq) S A qs):=ld (HEN1.out.keep fun _ _=>rfl)
  have AP2:Hid (Apart (w1.drewN nq) S F G):=ld HAP1.out
  clear ND1 GR1 BX1 HEN1 HAP1 c11 d4 d5 b1 q1
  generalize w1.drewN nq=W2 at ND2 GR2 BX2 EN2 AP2 ⊢
  obtain ⟨d0,d1,d2,d3,d4,d5,d6,d7,d8,d9⟩:=BX2.out.1.d
  clear d0 d1 d2 d3 d6 d7 d8 d9
  by_cases q2:p1.log.length<m.idx
  ·have b2:(p1.log.length:Int)<(m.idx:Int):=by omega
   have HE:Hid (Rf.append cf draw m p=(p1,[Rf.re p1 m 6 p1.term m.idx true p1.log.length])):=ld (by rw [HAPP.out,if_neg HQ1.out,if_pos q2])
   go_quiet ((go_at_call 57;exact Calls.quiet_of (end_at (ND2.out.drewN _) HF1.out)))
   go_wp2_with (fail)
   have ND3:=ld (ND2.out.drewN nq)
   have GR3:=ld (GR2.out.below (below_drewN' (Below.refl _ _) nq))
   have BX3:Hid (BoxAt (W2.drewN nq) z m A n c∧¬ (F z∨G z)):=ld BX2.out
   clear ND2 GR2 BX2 d4 d5 b2 q2
   generalize W2.drewN nq=W3 at ND3 GR3 BX3 ⊢
   have BXd:Hid (BoxAt W3.drew z m A n c):=ld BX3.out.1
   have hbl3:=ND3.out.lt
   refine wp_region_held_drew (S:=fun W:World=>BoxAt W z m A n c) (by kernel_rfl) BXd.out (fun hHeld=>?_)
   refine tkG211 0 (.pointer (some ⟨b,0,none⟩)) ?_
   refine tkG211 1 (.agg #[.int .i64 m.kind,.int .i64 m.src,.int .i64 m.dst,.int .i64 m.term,.int .i64 m.idx,.int .i64 m.lt,.int .i64 m.commit,.slice A n c,.bool m.rej,.int .i64 m.hint]) ?_
   refine tkG211 2 (.pointer (some ⟨b,0,none⟩)) ?_
   refine rdy 3 fun K hK=>?_
   go_simp
   refine (end_at (show NodeAt W3.drew F G b cf draw l0 p1 ms from ND3.out.drewN 1) HF1.out).mono ?_
   rintro e w5 ⟨rfl,n5,rfl⟩
   have BX5:Hid (BoxAt (W3.drewN (1+n5)) z m A n c):=ld BX3.out.1
   go_wp2_with fail
   refine hks hK ?_ fun hHeld=>?_
   ·exact BX5.out
   clear hK K
   refine rdy 4 fun K hK=>?_
   go_simp
   refine (reject_any (show NodeAt (W3.drewN (1+n5)) F G b cf draw l0 p1 ms from ND3.out.drewN _) (by have:=HML.out;omega) m A n c p1.log.length).mono ?_
   rintro e w6 ⟨rfl,F6,G6,hn6,hg6⟩
   have ND6:=ld hn6
   have hgd:Grew w (W3.drewN (1+n5)) F G F G:=GR3.out.below (below_drewN' (Below.refl _ _) _)
   have GR6:=ld (hgd.trans hg6)
   have BX6:=ld (BX5.out.grew BX3.out.2 hg6).1
   clear hn6 hg6 hgd
   go_wp2_with fail
   refine hks hK ?_ fun hHeld=>?_
   ·exact BX6.out
   clear hK K
   refine don ?_
   clear hHeld
   go_wp2
   refine bodyPost_ret (results_none rfl _ _ _) rfl ?_
   rw [HE.out]
   exact ⟨rfl,F6,G6,ND6.out,GR6.out⟩
  ·have b2:¬ (p1.log.length:Int)<(m.idx:Int):=by omega
   have HQ2:=ld q2
   go_quiet ((go_at_call 57;exact Calls.quiet_of (end_at (ND2.out.drewN _) HF1.out)))
   go_wp2_with (fail)
   have ND3:=ld (ND2.out.drewN nq)
   have GR3:=ld (GR2.out.below (below_drewN' (Below.refl _ _) nq))
   have BX3:Hid (BoxAt (W2.drewN nq) z m A n c∧¬ (F z∨G z)):=ld BX2.out
   have EN3:Hid (EntsS (W2.drewN nq) S A qs):=ld (EN2.out.keep fun _ _=>rfl)
   have AP3:Hid (Apart (W2.drewN nq) S F G):=ld AP2.out
   clear ND2 GR2 BX2 EN2 AP2 d4 d5 b2 q2
   generalize W2.drewN nq=W3 at ND3 GR3 BX3 EN3 AP3 ⊢
   obtain ⟨d0,d1,d2,d3,d4,d5,d6,d7,d8,d9⟩:=BX3.out.1.d
   clear d0 d1 d2 d3 d6 d7 d8 d9
   obtain ⟨tm,htm⟩:∃ tm,tm=p1.tm m.idx:=⟨_,rfl⟩
   have HTMI:=ld htm
   have hle:m.idx≤p1.log.length:=by have:=HQ2.out;omega
   have HLE:=ld hle
   clear hle
   have HT3:Hid (∀ nn,Calls Tryz.prog 107 #[.pointer (some ⟨b,0,none⟩),.int .i64 m.idx] (W3.drewN nn) fun e w'=>e=.returned (.int .i64 (tm:Nat))∧∃ n,w'=(W3.drewN nn).drewN n):=ld fun nn=>by rw [htm];exact term_at (ND3.out.drewN nn) HF1.out HLE.out
   by_cases q3:tm=m.lt
   ·have b3:((tm:Int) != (m.lt:Int))=false:=by rw [bne_eq_false_iff_eq];omega
    have b4:(tm != m.lt)=false:=by rw [bne_eq_false_iff_eq];omega
    have HQ3:=ld q3
    clear q3 htm
    go_quiet ((go_at_call 107;exact Calls.quiet_of (HT3.out _)))
    have ND4:=ld (ND3.out.drewN nq)
    have GR4:=ld (GR3.out.below (below_drewN' (Below.refl _ _) nq))
    have BX4:Hid (BoxAt (W3.drewN nq) z m A n c∧¬ (F z∨G z)):=ld BX3.out
    have EN4:Hid (EntsS (W3.drewN nq) S A qs):=ld (EN3.out.keep fun _ _=>rfl)
    have AP4:Hid (Apart (W3.drewN nq) S F G):=ld AP3.out
    have HE:Hid (Rf.append cf draw m p=({ p1 with log:=(Rf.merge p1.log m.idx m.es).1,commit:=max p1.commit (min m.commit (Rf.merge p1.log m.idx m.es).2) },[Rf.re { p1 with log:=(Rf.merge p1.log m.idx m.es).1,commit:=max p1.commit (min m.commit (Rf.merge p1.log m.idx m.es).2) } m 6 p1.term (Rf.merge p1.log m.idx m.es).2 false 0])):=ld (by
     rw [HAPP.out,if_neg HQ1.out,if_neg HQ2.out,if_neg (by rw [←HTMI.out];exact fun h=>h HQ3.out)])
    clear ND3 GR3 BX3 EN3 AP3 d4 d5 b3 b4 HAPP
    generalize W3.drewN nq=W4 at ND4 GR4 BX4 EN4 AP4 ⊢
    obtain ⟨d0,d1,d2,d3,d4,d5,d6,d7,d8,d9⟩:=BX4.out.1.d
    clear d0 d1 d2 d3 d5 d6 d8 d9
    go_upto_block 1 with (fail)
    clear d4
    go_cut [4] (fun i wx=>∃ j:Nat,i=.int .i64 j∧Hid (∃ l' F' G',NodeAt wx F' G' b cf draw l0 { p1 with log:=l' } ms∧Grew w wx F G F' G'∧BoxAt wx z m A n c∧¬ (F' z∨G' z)∧Rf.merge p1.log m.idx m.es=(l',j)))
    case first =>
     go_wp2_with (fail)
     clear d7
     go_loopw [4,59] (fun i k wr=>∃ kk:Nat,i=.int .i64 ((m.idx+kk:Nat):Int)∧k=.int .i64 kk∧kk≤n∧Hid (Below W4.heap.size W4 wr∧Rf.merge p1.log m.idx m.es=Rf.merge p1.log (m.idx+kk) (m.es.drop kk)∧m.idx+kk≤p1.log.length)) (fun _ k _=>n-(intOf k).toNat)
     case atStart=>exact ⟨0,rfl,rfl,Nat.zero_le _,ld ⟨Below.refl _ _,rfl,HLE.out⟩⟩
     case round =>
      obtain ⟨kk,rfl,rfl,hk,HI⟩:=hrel
      obtain ⟨j,hj⟩:∃ j,j=m.idx+kk:=⟨_,rfl⟩
      rw [←hj]
      have HJ:=ld hj
      clear hj
      by_cases hlt:kk<n
      ·obtain ⟨q,hq⟩:∃ q,qs[kk]?=some q:=⟨_,List.getElem?_eq_getElem (by have:=HNN.out.1;omega)⟩
       obtain ⟨e,he⟩:∃ e,m.es[kk]?=some e:=⟨_,List.getElem?_eq_getElem (by have:=HLEN.out;omega)⟩
       have hcon:con q=⟨(j:Int)+1,e.term,e.data⟩:=by
        have h1:=congrArg (fun l=>l[kk]?) HQS.out
        simp only [List.getElem?_map,numb_get,hq,he,Option.map_some] at h1
        injection h1 with h1
        rw [HJ.out];exact h1
       have hdrop:m.es.drop kk=e :: m.es.drop (kk+1):=by
        rw [List.drop_eq_getElem_cons (List.getElem?_eq_some_iff.1 he).1,(List.getElem?_eq_some_iff.1 he).2]
       have HDR:=ld hdrop
       have hsz:=HI.out.1.size
       have HBr:=ld HI.out.1
       have NDr:=ld (ND4.out.below HBr.out)
       have hENr:EntsS wr S A qs:=EN4.out.keep fun i hi=>HBr.out.block i (AP4.out i hi).1
       obtain ⟨ba,o,hA,hba,c0,c1,c2⟩:=ents_at (hENr.ents (B:=wr.heap.size) fun i hi=>Nat.lt_of_lt_of_le (AP4.out i hi).1 hsz) hq
       have i1:q.1.idx=(j:Int)+1:=congrArg E.idx hcon
       have i2:q.1.term=e.term:=congrArg E.term hcon
       rw [i1] at c0
       rw [i2] at c1
       have hjl:j≤p1.log.length:=by have:=HI.out.2.2;have:=HJ.out;omega
       have HJL:=ld hjl
       have HMR:Hid (Rf.merge p1.log m.idx m.es=Rf.merge p1.log j (e :: m.es.drop (kk+1))):=ld (by rw [HI.out.2.1,HJ.out,hdrop])
       have HQ:=ld (And.intro hq he)
       generalize hq1:q.1.A=eA at c2
       generalize hq2:q.1.n=en at c2
       generalize hq3:q.1.c=ec at c2
       obtain ⟨et,het⟩:∃ et,et=e.term:=⟨_,rfl⟩
       rw [←het] at c1
       have HET:=ld het
       have hjb:(j:Int)≤1000000:=by have:=HF1.out.fin;omega
       have hn16:n≤16:=by have:=HLEN.out;have:=HES.out;omega
       have HA:=ld hA
       clear hq he hcon hdrop hENr hA i1 i2 hjl hq1 hq2 hq3 het hba
       have hA':=HA.out
       subst hA'
       go_upto_region 12 with (fail)
       have hb1:=below_alloc1 wr (.cells #[.int .i64 ((j:Int)+1),.int .i64 (et:Int),.slice eA en ec] 67)
       have hY:=World.alloc_at wr (.cells #[.int .i64 ((j:Int)+1),.int .i64 (et:Int),.slice eA en ec] 67)
       obtain ⟨y,hy⟩:∃ y,y=wr.heap.size:=⟨_,rfl⟩
       have HYB:Hid (y≠b∧¬ F y∧¬ G y):=ld ⟨fun e=>by have:=NDr.out.lt;omega,fun h=>by have:=NDr.out.bd.1 y h;omega,fun h=>by have:=NDr.out.bd.2.1 y h;omega⟩
       rw [←hy] at hY ⊢
       have ND5:=ld (NDr.out.below hb1)
       have HB5:=ld (HBr.out.trans (hb1.mono hsz))
       clear c0 c1 c2 hb1 hsz NDr HBr HA hy
       generalize wr.alloc (.cells #[.int .i64 ((j:Int)+1),.int .i64 (et:Int),.slice eA en ec] 67)=W5 at ND5 HB5 hY ⊢
       have HY:=ld hY
       have y0:W5.cell? ⟨y,0,none⟩=some (.int .i64 ((j:Int)+1)):=cell_block hY 0 _ rfl
       have y1:W5.cell? ⟨y,1,none⟩=some (.int .i64 (et:Int)):=cell_block hY 1 _ rfl
       clear hY
       obtain ⟨tj,htj⟩:∃ tj,tj=p1.tm (j+1):=⟨_,rfl⟩
       have HTJ:=ld htj
       clear htj
       go_cut [77] (fun v wx=>∃ ht:Bool,v=.bool ht∧Hid ((ht=true→j<p1.log.length∧tj=et)∧(ht=false→p1.log.length≤j∨tj≠et))∧∃ nq,wx=W5.drewN nq)
       case first =>
        by_cases q4:j<p1.log.length
        ·have b5:(j:Int)+1≤(p1.log.length:Int):=by omega
         have HQ4:=ld q4
         have hj1:j+1≤p1.log.length:=q4
         have HT5:Hid (∀ nn,Calls Tryz.prog 107 #[.pointer (some ⟨b,0,none⟩),.int .i64 ((j:Int)+1)] (W5.drewN nn) fun e w'=>e=.returned (.int .i64 (tj:Nat))∧∃ n,w'=(W5.drewN nn).drewN n):=ld fun nn=>by rw [HTJ.out];exact term_at (i:=j+1) (ND5.out.drewN nn) HF1.out hj1
         clear q4 hj1
         by_cases q5:tj=et
         ·have b6:((tj:Int)==(et:Int))=true:=by rw [beq_iff_eq];omega
          have b7:(tj==et)=true:=by rw [beq_iff_eq];omega
          have HQ5:=ld q5
          clear q5
          go_quiet ((first | (go_at_call 57;exact Calls.quiet_of (end_at (ND5.out.drewN _) HF1.out)) | (go_at_call 107;exact Calls.quiet_of (HT5.out _))))
          go_wp2_with fail
          go_meet
          exact ⟨true,rfl,ld ⟨fun _=>⟨HQ4.out,HQ5.out⟩,fun h=>(by cases h)⟩,_,rfl⟩
         ·have b6:((tj:Int)==(et:Int))=false:=by rw [beq_eq_false_iff_ne];omega
          have b7:(tj==et)=false:=by rw [beq_eq_false_iff_ne];omega
          have HQ5:=ld q5
          clear q5
          go_quiet ((first | (go_at_call 57;exact Calls.quiet_of (end_at (ND5.out.drewN _) HF1.out)) | (go_at_call 107;exact Calls.quiet_of (HT5.out _))))
          go_wp2_with fail
          go_meet
          exact ⟨false,rfl,ld ⟨fun h=>(by cases h),fun _=>.inr HQ5.out⟩,_,rfl⟩
        ·have b5:decide ((j:Int)+1≤(p1.log.length:Int))=false:=decide_eq_false (by omega)
         have HQ4:=ld q4
         clear q4
         go_quiet ((go_at_call 57;exact Calls.quiet_of (end_at (ND5.out.drewN _) HF1.out)))
         go_wp2_with fail
         go_meet
         exact ⟨false,rfl,ld ⟨fun h=>(by cases h),fun _=>.inl (Nat.le_of_not_lt HQ4.out)⟩,_,rfl⟩
       case rest =>
        obtain ⟨ht,rfl,HHT,nq,rfl⟩:=hcut
        have ND6:=ld (ND5.out.drewN nq)
        have HB6:=ld (below_drewN' HB5.out nq)
        have HY6:Hid ((W5.drewN nq).heap[y]?=some (.cells #[.int .i64 ((j:Int)+1),.int .i64 (et:Int),.slice eA en ec] 67 (0,0))):=ld HY.out
        clear ND5 HB5 HY y0 y1
        generalize W5.drewN nq=W6 at ND6 HB6 HY6 ⊢
        have y0:W6.cell? ⟨y,0,none⟩=some (.int .i64 ((j:Int)+1)):=cell_block HY6.out 0 _ rfl
        cases ht with
        | true =>
         have HX:=ld (HHT.out.1 rfl)
         clear HHT
         go_wp2_with (fail)
         go_roundw
         case rel =>
          refine ⟨kk+1,congrArg (Value.int .i64) (by have:=HJ.out;omega),by go_num,by omega,ld ⟨HB6.out,?_,by have:=HX.out.1;have:=HJ.out;omega⟩⟩
          rw [HMR.out,Rf.merge_hit HX.out.1 (by rw [←HET.out,←Rf.tm_eq,←HTJ.out];exact HX.out.2),HJ.out]
          rfl
         case measure=>simp [intOf];omega
        | false =>
         have HX:=ld (HHT.out.2 rfl)
         clear HHT
         go_wp2_with (fail)
         go_quiet ((go_at_call 57;exact Calls.quiet_of (end_at (ND6.out.drewN _) HF1.out)))
         go_upto_if 84 with (fail)
         have ND7:=ld (ND6.out.drewN nq)
         have HB7:=ld (below_drewN' HB6.out nq)
         have HY7:Hid ((W6.drewN nq).heap[y]?=some (.cells #[.int .i64 ((j:Int)+1),.int .i64 (et:Int),.slice eA en ec] 67 (0,0))):=ld HY6.out
         clear ND6 HB6 HY6 y0
         generalize W6.drewN nq=W7 at ND7 HB7 HY7 ⊢
         have GR7:=ld (GR4.out.below HB7.out)
         go_cut [] (fun wx=>Hid (∃ F8 G8,NodeAt wx F8 G8 b cf draw l0 { p1 with log:=p1.log.take j } ms∧Grew W7 wx F G F8 G8))
         case first =>
          by_cases q4:j<p1.log.length
          ·have b5:(j:Int)+1≤(p1.log.length:Int):=by omega
           have b6:decide ((j:Int)+1≤(p1.log.length:Int))=true:=decide_eq_true b5
           go_wp2_with (fail)
           obtain ⟨lA,ln,lk,ls,c8,hrow,hln,hlk,hlp,hcutf⟩:=ND7.out.log8
           have c9:=ND7.out.c9
           have hbl7:=ND7.out.lt
           obtain ⟨arr7,hb7⟩:=ND7.out.arr
           have hf7:=frozen_block hb7
           have HRW:Hid (Row encLE 3 W7.drew W7.heap.size lA ls∧ln=ls.length):=ld ⟨hrow,hln⟩
           have HCF:=ld hcutf
           have HB7B:=ld hb7
           have hjn:j≤lk:=by omega
           have HLP:=ld (And.intro hlp hlk)
           have HQ4:=ld q4
           have hyb:=HYB.out.1
           have hbl7d:b<W7.drew.heap.size:=hbl7
           have c8d:W7.drew.cell? ⟨b,8,none⟩=some (.slice lA ln lk):=c8
           have c9d:W7.drew.cell? ⟨b,9,none⟩=some (.int .i64 0):=c9
           have HYd:Hid (W7.drew.heap[y]?=some (.cells #[.int .i64 ((j:Int)+1),.int .i64 (et:Int),.slice eA en ec] 67 (0,0))):=ld HY7.out
           have V1:IntKind.i64.wrap ((j:Int)+1)=(j:Int)+1:=IntWalk.i64_in _ (by omega)
           have V2:IntKind.i64.wrap (j:Int)=(j:Int):=IntWalk.i64_in _ (by omega)
           clear hrow hln hlk hlp hcutf q4 c8 c9 hbl7
           refine wp_region_held_drew (S:=fun W:World=>W.heap[y]?=some (.cells #[.int .i64 ((j:Int)+1),.int .i64 (et:Int),.slice eA en ec] 67 (0,0))∧W.cell? ⟨b,9,none⟩=some (.int .i64 0)) (by kernel_rfl) ⟨HYd.out,c9d⟩ (fun hHeld=>?_)
           refine tkG212 0 (.pointer (some ⟨b,0,none⟩)) ?_
           refine tkG212 1 (.pointer (some ⟨b,0,none⟩)) ?_
           refine tkG212 2 (.pointer (some ⟨b,0,none⟩)) ?_
           refine tkG212 3 (.pointer (some ⟨b,8,none⟩)) ?_
           refine tkG212 5 (.pointer (some ⟨y,0,none⟩)) ?_
           refine tkG212 6 (.int .i64 ((j:Int)+1)) ?_
           refine tkG212 7 (.pointer (some ⟨b,0,none⟩)) ?_
           refine tkG212 8 (.pointer (some ⟨b,0,none⟩)) ?_
           refine tkG212 9 (.pointer (some ⟨b,9,none⟩)) ?_
           refine tkG212 10 (.int .i64 (0)) ?_
           refine tkG212 11 (.int .i64 ((j:Int)+1)) ?_
           refine tkG212 12 (.int .i64 ((j:Int))) ?_
           refine rdy 4 fun K hK=>?_
           go_simp
           refine hks hK ?_ fun hHeld=>?_
           ·exact ⟨HYd.out,c9d⟩
           clear hK K
           refine tkG212 13 (.slice lA j lk) ?_
           refine rdy 14 fun K hK=>?_
           go_simp
           refine (lclone_any lA j lk (ls.take j) W7.drew ?_ ?_ ?_).mono ?_
           ·exact HRW.out.1.take j
           ·rw [List.length_take];have:=HRW.out.2;have:=HLP.out.1;have:=HQ4.out;omega
           ·rw [List.length_take];have:=HRW.out.2;have:=HLP.out.1;have:=HF1.out.fin;omega
           rintro e9 w9 ⟨v9,rfl,hown9,hb9⟩
           have hb9':Below W7.heap.size W7 w9:=⟨hb9.os,hb9.tape,hb9.output,hb9.size,hb9.block⟩
           have hown9':Own encLE 3 67 w9 W7.heap.size v9 (ls.take j):=hown9
           obtain ⟨A9,k9,hv9⟩:=hown9'.form
           have ND9:=ld (ND7.out.below hb9')
           have c99:=ND9.out.c9
           have HY9:Hid (w9.heap[y]?=some (.cells #[.int .i64 ((j:Int)+1),.int .i64 (et:Int),.slice eA en ec] 67 (0,0))):=ld ((hb9'.block y (block_lt HY7.out)).trans HY7.out)
           obtain ⟨arr9,hb99⟩:=ND9.out.arr
           have hf9:=frozen_block hb99
           have HB99:=ld hb99
           subst hv9
           generalize (ls.take j).length=n9 at hown9' ⊢
           have HOW:=ld (And.intro hown9' hb9')
           clear hown9 hb9 hown9' hb9' hb99 c8d c9d
           obtain ⟨c89,hc89⟩:∃ v,w9.cell? ⟨b,8,none⟩=some v:=by
            obtain ⟨_,_,_,_,h,_⟩:=ND9.out.log8
            exact ⟨_,h⟩
           go_wp2_with fail
           refine hks hK ?_ fun hHeld=>?_
           ·exact ⟨HY9.out,c99⟩
           clear hK K
           refine tk 15 (.pointer (some ⟨b,0,none⟩)) ?_ ?_
           ·intro w hSw;obtain ⟨hS1,hS2⟩:=hSw;go_simp
           refine tk 16 (.pointer (some ⟨b,8,none⟩)) ?_ ?_
           ·intro w hSw;obtain ⟨hS1,hS2⟩:=hSw;go_simp
           refine rdy 17 fun K hK=>?_
           go_simp
           refine hks hK ?_ fun hHeld=>?_
           ·exact ⟨(Below.heap_setCell _ _ _ _ hyb).trans HY9.out,(cell_off HB99.out (by decide)).trans c99⟩
           clear hK K
           refine don ?_
           clear hHeld V1 V2 c99 hf9 hc89
           have HC9:=ld (HCF.out w9 A9 n9 k9 j HJL.out HOW.out.2 HOW.out.1)
           have y9:(w9.setCell ⟨b,8,none⟩ (.slice A9 n9 k9)).cell? ⟨y,0,none⟩=some (.int .i64 ((j:Int)+1)):=cell_block ((Below.heap_setCell _ _ _ _ hyb).trans HY9.out) 0 _ rfl
           generalize w9.setCell ⟨b,8,none⟩ (.slice A9 n9 k9)=WA at HC9 y9 ⊢
           go_wp2_with (fail)
           refine HC9.out.mono ?_
           rintro eA wB ⟨rfl,FB,hnB,hgB⟩
           have NDB:=ld hnB
           have GRB:=ld hgB
           clear hnB hgB
           go_wp2_with (fail)
           go_meet
           exact ld ⟨FB,G,NDB.out,GRB.out⟩
          ·have b5:¬ (j:Int)+1≤(p1.log.length:Int):=by omega
           go_wp2_with (fail)
           go_meet
           refine ld ⟨F,G,?_,Grew.refl⟩
           rw [List.take_of_length_le (by omega)]
           exact ND7.out
         case rest =>
          obtain ⟨F8,G8,hn8,hg8⟩:=hcut.out
          have ND8:=ld hn8
          have GX:=ld (GR4.out.below HB7.out |>.trans hg8)
          have BX7:=BX4.out.1.below HB7.out
          have hEN7:EntsS W7 S (some ⟨ba,o,none⟩) qs:=EN4.out.keep fun i hi=>HB7.out.block i (AP4.out i hi).1
          have hAP7:Apart W7 S F G:=fun i hi=>⟨Nat.lt_of_lt_of_le (AP4.out i hi).1 HB7.out.size,(AP4.out i hi).2⟩
          have BX8:=ld (BX7.grew BX4.out.2 hg8)
          have EN8:Hid (EntsS wc S (some ⟨ba,o,none⟩) qs):=ld (hEN7.grew hAP7 hg8)
          have AP8:=ld (hAP7.grew hg8)
          clear hn8 hg8 BX7 hEN7 hAP7 hcut ND7 HY7 GR7
          have HF8:Hid (Fits cf { p1 with log:=p1.log.take j }):=ld ⟨HF1.out.n,HF1.out.time,HF1.out.batch,HF1.out.id,by show (p1.log.take j).length≤_;rw [List.length_take];have:=HF1.out.fin;omega,HF1.out.term,by show p1.commit≤(p1.log.take j).length;rw [List.length_take];have:=HQ1.out;have:=HJL.out;have:=HJ.out;omega⟩
          have hcut8:=EN8.out.cut (k:=kk) (n:=n) (cap:=c) hk HNN.out.2 HNN.out.1
          have hkc:kk≤c:=by have:=HNN.out.2;omega
          have hbl8:=ND8.out.lt
          obtain ⟨lA,ln,lk,ls,c8,_,_,_,hl8,_⟩:=ND8.out.log8
          have hlj:ln=j:=by rw [hl8];show (p1.log.take j).length=j;rw [List.length_take];have:=HJL.out;omega
          rw [hlj] at c8
          have HCU:=ld hcut8
          clear hcut8 hlj hl8
          obtain ⟨d0,d1,d2,d3,d4,d5,d6,d7,d8,d9⟩:=BX8.out.1.d
          clear d0 d1 d2 d3 d4 d5 d6 d8 d9
          have hck:¬ c=kk:=by have:=HNN.out.2;omega
          go_upto_region 18 with (fail)
          clear d7
          obtain ⟨n1,hn1⟩:∃ n1,n1=n-kk:=⟨_,rfl⟩
          rw [←hn1]
          obtain ⟨c1,hc1⟩:∃ c1,c1=c-kk:=⟨_,rfl⟩
          rw [←hc1]
          have hnc1:n1≤c1:=by have:=HNN.out.2;omega
          have hn16':n1≤16:=by omega
          have hj65:j≤65520:=by have h1:=HJL.out;have h2:=HLL.out;rw [←HL1.out] at h2;omega
          have hmin1:decide ((n1:Int)≤65536-(j:Int))=true:=decide_eq_true (by omega)
          have hmin2:(n1:Int)≤65536-(j:Int):=by omega
          have hmin3:decide (65536-(j:Int)<(n1:Int))=false:=decide_eq_false (by omega)
          have hc1e:c1=c-kk:=hc1
          have HC1:=ld (And.intro hn1 hc1)
          have HCUT2:=ld (show EntsS wc S (some ⟨ba,o+kk*3,none⟩) (qs.drop kk) by
           have h:=HCU.out
           rw [if_neg hck] at h
           simp only [Option.map_some,Addr.add] at h
           rcases Nat.eq_zero_or_pos (kk*3) with h0 | h0
           ·have:kk=0:=by omega
            subst this
            exact h
           ·rw [if_neg (by omega)] at h;exact h)
          clear hn1 hc1 hc1e HCU
          go_wp2_with (fail)
          refine (join_at ND8.out HF8.out _ n1 c1 (qs.drop kk) S HCUT2.out (fun i hi=>⟨(AP8.out i hi).1,fun e=>(AP8.out i hi).2.1 (e▸ND8.out.hb)⟩) ?_ (m.es.drop kk) ?_ ?_).mono ?_
          ·rw [List.length_drop,HC1.out.1,HNN.out.1]
          ·show (qs.drop kk).map con=numb (p1.log.take j).length (m.es.drop kk)
           rw [List.map_drop,HQS.out,numb_drop,List.length_take,Nat.min_eq_left HJL.out,HJ.out]
          ·rw [List.length_drop];have:=HES.out;omega
          rintro e9 w9 ⟨rfl,F9,hn9,hg9⟩
          have ND9:=ld hn9
          have GR9:=ld (GX.out.trans hg9)
          have BX9:=ld (BX8.out.1.grew BX8.out.2 hg9)
          have hlen9:(p1.log.take j++m.es.drop kk).length=j+(m.es.length-kk):=by rw [List.length_append,List.length_take,List.length_drop,Nat.min_eq_left HJL.out]
          have HF9:Hid (Fits cf { p1 with log:=p1.log.take j++m.es.drop kk }):=ld ⟨HF1.out.n,HF1.out.time,HF1.out.batch,HF1.out.id,by show (p1.log.take j++m.es.drop kk).length≤_;rw [hlen9];have:=HES.out;omega,HF1.out.term,by show p1.commit≤(p1.log.take j++m.es.drop kk).length;rw [hlen9];have:=HQ1.out;have:=HJ.out;omega⟩
          obtain ⟨L9,hL9⟩:∃ L9,L9=(p1.log.take j++m.es.drop kk).length:=⟨_,rfl⟩
          have HE9:Hid (Calls Tryz.prog 57 #[.pointer (some ⟨b,0,none⟩)] w9 fun e w'=>e=.returned (.int .i64 L9)∧∃ n,w'=w9.drewN n):=ld (by rw [hL9];exact end_at ND9.out HF9.out)
          rw [←hL9] at hlen9
          have HL9:=ld hlen9
          clear hL9 hn9 hg9 hlen9 ND8 BX8 EN8 AP8 HCUT2
          go_wp2_with (fail)
          refine HE9.out.mono ?_
          rintro e10 w10 ⟨rfl,n10,rfl⟩
          go_wp2_with (fail)
          go_meet
          refine ⟨L9,rfl,ld ⟨p1.log.take j++m.es.drop kk,F9,G8,ND9.out.drewN n10,GR9.out.below (below_drewN' (Below.refl _ _) _),BX9.out.1,BX9.out.2,?_⟩⟩
          rw [HMR.out,Rf.merge_miss (HX.out.imp_right fun h h2=>h (by rw [HTJ.out,Rf.tm_eq,h2,HET.out])) ?_,HDR.out,HL9.out]
          ·have h1:=HDR.out
           have h2:=congrArg List.length h1
           rw [List.length_drop,List.length_cons] at h2
           rw [←h2]
          ·have h2:=congrArg List.length HDR.out
           rw [List.length_drop,List.length_cons] at h2
           have h3:=HLL.out
           rw [←HL1.out] at h3
           have:=HES.out
           omega
      ·have hkn:kk=n:=by omega
       have HKN:=ld hkn
       clear hlt
       go_wp2_with (fail)
       go_meet
       have e1:m.es.drop kk=[]:=List.drop_eq_nil_of_le (by have:=HLEN.out;have:=HKN.out;omega)
       refine ⟨j,rfl,ld ⟨p1.log,F,G,ND4.out.below HI.out.1,GR4.out.below HI.out.1,BX4.out.1.below HI.out.1,BX4.out.2,?_⟩⟩
       rw [HI.out.2.1,e1,HJ.out];rfl
    case rest =>
     obtain ⟨j,rfl,HX⟩:=hcut
     obtain ⟨l',F8,G8,hn8,hg8,hbx8,hfz8,hm8⟩:=HX.out
     have HM8:=ld hm8
     have ND8:=ld hn8
     have GR8:=ld hg8
     have BX8:Hid (BoxAt wc z m A n c∧¬ (F8 z∨G8 z)):=ld ⟨hbx8,hfz8⟩
     clear hn8 hg8 hbx8 hfz8 hm8 HX ND4 GR4 BX4 EN4 AP4
     have c11:=ND8.out.c11
     have hbl8:=ND8.out.lt
     have hzb:z≠b:=fun e=>BX8.out.2 (.inl (e▸ND8.out.hb))
     obtain ⟨arr8,hb8⟩:=ND8.out.arr
     have hf8:=frozen_block hb8
     have HB8:=ld hb8
     clear hb8
     have BXd:Hid (BoxAt wc.drew z m A n c):=ld BX8.out.1
     have c11d:wc.drew.cell? ⟨b,11,none⟩=some (.int .i64 (p1.commit:Int)):=c11
     have hbl8d:b<wc.drew.heap.size:=hbl8
     go_wp2_with (fail)
     refine wp_region_held_drew (S:=fun W:World=>BoxAt W z m A n c) (by kernel_rfl) BXd.out (fun hHeld=>?_)
     refine tkG211 0 (.pointer (some ⟨b,0,none⟩)) ?_
     refine tkG211 1 (.pointer (some ⟨b,0,none⟩)) ?_
     refine tkG211 2 (.pointer (some ⟨b,0,none⟩)) ?_
     refine tkG211 3 (.pointer (some ⟨b,11,none⟩)) ?_
     refine tkG211 5 (.pointer (some ⟨z,6,none⟩)) ?_
     refine tkG211 6 (.int .i64 (m.commit:Int)) ?_
     refine tkG211 7 (.int .i64 (j:Int)) ?_
     refine tk 8 (.int .i64 ((min m.commit j:Nat):Int)) ?_ ?_
     ·intro w hSw;exact exec_minN _ _ _ (by rfl) _ _ (by rfl) (by rfl) w
     refine rdy 4 fun K hK=>?_
     go_simp
     refine hks hK ?_ fun hHeld=>?_
     ·exact BXd.out
     clear hK K
     refine tk 9 (.int .i64 ((max p1.commit (min m.commit j):Nat):Int)) ?_ ?_
     ·intro w hSw;exact exec_maxN _ _ _ (by rfl) _ _ (by rfl) (by rfl) w
     refine tkG211 10 (.pointer (some ⟨b,0,none⟩)) ?_
     refine tkG211 11 (.pointer (some ⟨b,11,none⟩)) ?_
     refine rdy 12 fun K hK=>?_
     go_simp
     refine hks hK ?_ fun hHeld=>?_
     ·exact (Below.heap_setCell _ _ _ _ hzb).trans BXd.out
     clear hK K
     refine don ?_
     clear hHeld c11d hf8
     have ND9:=ld ((ND8.out.drewN 1).set11 (max p1.commit (min m.commit j)) ((max p1.commit (min m.commit j):Nat):Int) rfl)
     have GR9:=ld ((GR8.out.below (below_drewN' (Below.refl _ _) 1)).setCell (o:=11) ND8.out.hb (.int .i64 ((max p1.commit (min m.commit j):Nat):Int)))
     have BX9:Hid (BoxAt ((wc.drewN 1).setCell ⟨b,11,none⟩ (.int .i64 ((max p1.commit (min m.commit j):Nat):Int))) z m A n c):=ld ((Below.heap_setCell _ _ _ _ hzb).trans BX8.out.1)
     have hdr:(wc.setCell ⟨b,11,none⟩ (.int .i64 ((max p1.commit (min m.commit j):Nat):Int))).drew=(wc.drewN 1).setCell ⟨b,11,none⟩ (.int .i64 ((max p1.commit (min m.commit j):Nat):Int)):=rfl
     rw [hdr]
     clear hdr
     generalize (wc.drewN 1).setCell ⟨b,11,none⟩ (.int .i64 ((max p1.commit (min m.commit j):Nat):Int))=W9 at ND9 GR9 BX9 ⊢
     clear ND8 GR8 BX8 c11 hbl8 hbl8d BXd
     obtain ⟨d0,d1,d2,d3,d4,d5,d6,d7,d8,d9⟩:=BX9.out.d
     go_wp2_with (fail)
     refine (reply_any ND9.out (by have:=HML.out;omega) m A n c j).mono ?_
     rintro e9 w9 ⟨rfl,hA9⟩
     have HA9:=ld hA9
     clear hA9 d0 d1 d2 d3 d4 d5 d6 d7 d8 d9
     go_wp2
     go_end0
     rw [HE.out,HM8.out]
     exact ⟨rfl,HA9.out.of GR9.out⟩
   ·have b3:((tm:Int) != (m.lt:Int))=true:=by rw [bne_iff_ne];omega
    have b4:(tm != m.lt)=true:=by rw [bne_iff_ne];omega
    have hi1:1≤m.idx:=by
     rcases Nat.eq_zero_or_pos m.idx with h0 | h0
     ·exfalso
      refine q3 ?_
      rw [htm,h0,HZ0.out h0];rfl
     ·exact h0
    have HE:Hid (Rf.append cf draw m p=(p1,[Rf.re p1 m 6 p1.term m.idx true (m.idx-1)])):=ld (by rw [HAPP.out,if_neg HQ1.out,if_neg HQ2.out,if_pos (by rw [←htm];exact q3)])
    clear q3 htm
    obtain ⟨j1,hj1⟩:∃ j1,m.idx=j1+1:=⟨m.idx-1,by omega⟩
    have hW5:IntKind.i64.wrap ((m.idx:Int)-1)=((m.idx-1:Nat):Int):=by rw [IntWalk.i64_in _ (by have:=HIX.out;omega)];omega
    clear hj1 hi1
    go_quiet ((go_at_call 107;exact Calls.quiet_of (HT3.out _)))
    have ND4:=ld (ND3.out.drewN nq)
    have GR4:=ld (GR3.out.below (below_drewN' (Below.refl _ _) nq))
    have BX4:Hid (BoxAt (W3.drewN nq) z m A n c):=ld BX3.out.1
    clear ND3 GR3 BX3 EN3 AP3 d4 d5
    generalize W3.drewN nq=W4 at ND4 GR4 BX4 ⊢
    obtain ⟨d0,d1,d2,d3,d4,d5,d6,d7,d8,d9⟩:=BX4.out.d
    go_wp2_with (fail)
    refine (reject_any ND4.out (by have:=HML.out;omega) m A n c (m.idx-1)).mono ?_
    rintro e w6 ⟨rfl,hA⟩
    have HA:=ld hA
    clear hA
    go_wp2
    refine bodyPost_ret (results_none rfl _ _ _) rfl ?_
    rw [HE.out]
    exact ⟨rfl,HA.out.of GR4.out⟩
end
end Go.Proofs.YtocogcgnahbpkaaGreat
