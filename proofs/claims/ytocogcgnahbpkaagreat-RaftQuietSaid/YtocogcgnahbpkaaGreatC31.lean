import Derived.Test.YtocogcgnahbpkaaGreatC12
import Derived.Test.YtocogcgnahbpkaaGreatC30
namespace Go.Proofs.YtocogcgnahbpkaaGreat
open Go.RowKit
section
variable {P:Program} {ops:Array Oper} {Q:Exit→Act→World→Prop} {md:Region.Mode} {S:World→Prop} {oi:Oper} {fuel:Nat} {listed l':Array Bool} {a a':Act} {w:World}
theorem tkG260 (i:Nat) (v:Value) (h:wpAnyH P md ops Q S fuel l' a' w) (hh:Tk ops Q md S oi listed l' a a' w i v:=by exact tkm) (hw:Region.wanted oi (yielded ops a.tmps)=true:=by rfl) (hv:∀ w,S w→(execOp a.eval oi).run P w=.ok (.value v) w:=by
  intro w hSw;obtain ⟨d0,d1,d2,d3,d4,d5,d6,d7,d8,d9⟩:=BoxAt.d hSw;go_simp):wpAnyH P md ops Q S (fuel+1) listed a w:=tk i v hv h hh hw
theorem tkG261 (i:Nat) (v:Value) (h:wpAnyH P md ops Q S fuel l' a' w) (hh:Tk ops Q md S oi listed l' a a' w i v:=by exact tkm) (hw:Region.wanted oi (yielded ops a.tmps)=true:=by rfl) (hv:∀ w,S w→(execOp a.eval oi).run P w=.ok (.value v) w:=by
  intro w hSw;obtain ⟨d0,d1,d2,d3,d4,d5,d6,d7,d8,d9⟩:=BoxAt.d hSw;have h9:(m.kind:Int)<9:=by have:=HK9.out;omega
  go_simp):wpAnyH P md ops Q S (fuel+1) listed a w:=tk i v hv h hh hw
end
section
variable {w w1 w2:World} {F G:Nat→Prop} {b:Nat} {cf:Rf.Cfg} {draw:Int} {l0:List Rf.Ent} {p:Rf.Nd} {ms:List Rf.Msg}
set_option maxRecDepth 100000 in
set_option maxHeartbeats 4000000 in
theorem message_walk (h:NodeAt w F G b cf draw l0 p ms) (hf:Fits cf p) (hml:ms.length≤400) (k0 k1 k12 k13 k14 k15:Value) (m:Rf.Msg) (A:Option Addr) (n c:Nat) (hfm:Rf.Form m) (hsrc:isOther cf p m.src=true) (hdst:m.dst=p.id) (htm:m.term≤1000000) (hix:m.idx≤900000) (hcm:m.commit≤1000000) (hhi:m.hint≤1000000) (hh3:m.kind=3→m.hint=0)
  (S:Nat→Prop) (qs:List (LE×List Int)) (hE:EntsS w S A qs) (hS:Apart w S F G) (hqs:qs.map con=numb m.idx m.es) (hn:n=qs.length) (hgo:Rf.goesP m.lt m.es m.term)
  (h5:m.kind=5→¬ (m.term=p.term∧p.role=4)∧(p.term≤m.term→m.idx=p.commit→m.lt=p.tm p.commit)) (h6:m.kind=6→m.term=p.term→p.role=4→m.rej=false→m.idx≤p.log.length)
  (fid:Nat) (heg:∀ args w,(callFunc fid args).run Tryz.prog w=.ok (.enter fid args) w) (hfid:kindCells[m.kind]?=some (.func (.func fid) #[] #[]))
  (hdo:∀ (W:World) (p':Rf.Nd),((p'=p∧(m.kind=6→m.term=p.term))∨(p.term<m.term∧p'=Rf.follow cf draw m.term (if m.kind=5 then m.src else 0) p))→NodeAt W F G b cf draw l0 p' ms→EntsS W S A qs→Apart W S F G →
   Calls Tryz.prog fid #[.pointer (some ⟨b,0,none⟩),msgV (mrOf m A n c)] W fun e w'=>e=.returned (.tuple #[])∧After W w' F G b cf draw l0 (Rf.kinds cf draw m p').1 (ms++(Rf.kinds cf draw m p').2)) :
  Calls Tryz.prog 73 #[.pointer (some ⟨b,0,none⟩),.agg #[k0,k1,.int .i64 m.kind,.int .i64 m.src,.int .i64 m.dst,.int .i64 m.term,.int .i64 m.idx,.int .i64 m.lt,.int .i64 m.commit,.slice A n c,.bool m.rej,.int .i64 m.hint,k12,k13,k14,k15]] w fun e w'=>e=.returned (.int .i64 0)∧After w w' F G b cf draw l0 (Rf.message cf draw m p).1 (ms++(Rf.message cf draw m p).2):=by
 have HF:=ld hf
 have HML:=ld hml
 have HFM:=ld hfm
 have HH3:=ld hh3
 have HDO:=ld hdo
 have HFID:=ld hfid
 have HEG:=ld heg
 have hb1:=below_one w (.cells #[k0,k1,.int .i64 m.kind,.int .i64 m.src,.int .i64 m.dst,.int .i64 m.term,.int .i64 m.idx,.int .i64 m.lt,.int .i64 m.commit,.slice A n c,.bool m.rej,.int .i64 m.hint,k12,k13,k14,k15] 61)
 have hz1:(w.alloc (.cells #[k0,k1,.int .i64 m.kind,.int .i64 m.src,.int .i64 m.dst,.int .i64 m.term,.int .i64 m.idx,.int .i64 m.lt,.int .i64 m.commit,.slice A n c,.bool m.rej,.int .i64 m.hint,k12,k13,k14,k15] 61)).heap.size=w.heap.size+1:=World.alloc_size _ _
 have hb2:Below w.heap.size w ((w.alloc (.cells #[k0,k1,.int .i64 m.kind,.int .i64 m.src,.int .i64 m.dst,.int .i64 m.term,.int .i64 m.idx,.int .i64 m.lt,.int .i64 m.commit,.slice A n c,.bool m.rej,.int .i64 m.hint,k12,k13,k14,k15] 61)).alloc (boxO m A n c)):=hb1.trans ((below_one _ _).mono (by omega))
 have HND:=ld (h.below hb2)
 have HGR:=ld ((Grew.refl (w:=w) (F:=F) (G:=G)).below hb2)
 have HAP:=ld (hS.grew HGR.out)
 have HEN:Hid (EntsS ((w.alloc (.cells #[k0,k1,.int .i64 m.kind,.int .i64 m.src,.int .i64 m.dst,.int .i64 m.term,.int .i64 m.idx,.int .i64 m.lt,.int .i64 m.commit,.slice A n c,.bool m.rej,.int .i64 m.hint,k12,k13,k14,k15] 61)).alloc (boxO m A n c)) S A qs):=ld (hE.grew hS HGR.out)
 have HFO:=ld (fun (W:World) (hW:Below w.heap.size w W)=>formed_yes (h.below hW) hf m A n c hfm hsrc hdst htm hix hcm hhi S qs (hE.keep fun i hi=>hW.block i (hS i hi).1) (fun i hi=>Nat.lt_of_lt_of_le (hS i hi).1 hW.size) hqs hn hgo)
 have HWR:=ld (fun (W:World) (hW:Below w.heap.size w W)=>wrong_no (h.below hW) hf m A n c hfm.kind h5 h6)
 have hzz:w.heap.size+1≠w.heap.size:=by omega
 have HBX:Hid (BoxAt ((w.alloc (.cells #[k0,k1,.int .i64 m.kind,.int .i64 m.src,.int .i64 m.dst,.int .i64 m.term,.int .i64 m.idx,.int .i64 m.lt,.int .i64 m.commit,.slice A n c,.bool m.rej,.int .i64 m.hint,k12,k13,k14,k15] 61)).alloc (boxO m A n c)) (w.heap.size+1) m A n c):=ld (by have:=World.alloc_at (w.alloc (.cells #[k0,k1,.int .i64 m.kind,.int .i64 m.src,.int .i64 m.dst,.int .i64 m.term,.int .i64 m.idx,.int .i64 m.lt,.int .i64 m.commit,.slice A n c,.bool m.rej,.int .i64 m.hint,k12,k13,k14,k15] 61)) (boxO m A n c);rwa [World.alloc_size] at this)
 obtain ⟨z,hz⟩:∃ z,z=w.heap.size:=⟨_,rfl⟩
 have HFZ:Hid (¬ (F (z+1)∨G (z+1))):=ld (by
  rintro (hh | hh)
  ·have:=h.bd.1 _ hh;omega
  ·have:=h.bd.2.1 _ hh;omega)
 have HB2:=ld hb2
 rw [←hz] at HBX
 clear h hf hml hfm hsrc hdst htm hix hcm hhi hh3 hE hS hqs hn hgo h5 h6 heg hfid hdo hb1 hz1 hb2 hzz
 go_enter Tryz.func73,Tryz.ntmps73
 go_upto_region 2 with (fail)
 rw [←hz]
 rw [show (w.alloc (.cells #[k0,k1,.int .i64 m.kind,.int .i64 m.src,.int .i64 m.dst,.int .i64 m.term,.int .i64 m.idx,.int .i64 m.lt,.int .i64 m.commit,.slice A n c,.bool m.rej,.int .i64 m.hint,k12,k13,k14,k15] 61)).alloc (.cells #[.int .i64 m.kind,.int .i64 m.src,.int .i64 m.dst,.int .i64 m.term,.int .i64 m.idx,.int .i64 m.lt,.int .i64 m.commit,.slice A n c,.bool m.rej,.int .i64 m.hint] 59)=(w.alloc (.cells #[k0,k1,.int .i64 m.kind,.int .i64 m.src,.int .i64 m.dst,.int .i64 m.term,.int .i64 m.idx,.int .i64 m.lt,.int .i64 m.commit,.slice A n c,.bool m.rej,.int .i64 m.hint,k12,k13,k14,k15] 61)).alloc (boxO m A n c) from rfl]
 generalize (w.alloc (.cells #[k0,k1,.int .i64 m.kind,.int .i64 m.src,.int .i64 m.dst,.int .i64 m.term,.int .i64 m.idx,.int .i64 m.lt,.int .i64 m.commit,.slice A n c,.bool m.rej,.int .i64 m.hint,k12,k13,k14,k15] 61)).alloc (boxO m A n c)=WV at HND HGR HAP HEN HBX HB2 ⊢
 obtain ⟨y,hy⟩:∃ y,y=z+1:=⟨_,rfl⟩
 rw [←hy] at HBX HFZ ⊢
 clear hz hy
 obtain ⟨d0,d1,d2,d3,d4,d5,d6,d7,d8,d9⟩:=HBX.out.d
 go_wp2_with (fail)
 refine (HFO.out WV HB2.out).mono ?_
 rintro e w1 ⟨rfl,hb1⟩
 have HB3:=ld (HB2.out.trans (hb1.mono HB2.out.size))
 have ND:=ld (HND.out.below hb1)
 have GR:=ld (HGR.out.below hb1)
 have BX0:=ld (HBX.out.below hb1)
 have EN:Hid (EntsS w1 S A qs):=ld (HEN.out.keep fun i hi=>hb1.block i (HAP.out i hi).1)
 have AP:Hid (Apart w1 S F G):=ld fun i hi=>⟨Nat.lt_of_lt_of_le (HAP.out i hi).1 hb1.size,(HAP.out i hi).2⟩
 clear HND HGR HBX HEN HAP HB2 hb1 d0 d1 d2 d3 d4 d5 d6 d7 d8 d9
 obtain ⟨d0,d1,d2,d3,d4,d5,d6,d7,d8,d9⟩:=BX0.out.d
 go_wp2_with (fail)
 refine (HWR.out w1 HB3.out).mono ?_
 rintro e WV ⟨rfl,hb1⟩
 replace ND:=ld (ND.out.below hb1)
 replace GR:=ld (GR.out.below hb1)
 have BX:=ld (And.intro (BX0.out.below hb1) HFZ.out)
 replace EN:Hid (EntsS WV S A qs):=ld (EN.out.keep fun i hi=>hb1.block i (AP.out i hi).1)
 replace AP:Hid (Apart WV S F G):=ld fun i hi=>⟨Nat.lt_of_lt_of_le (AP.out i hi).1 hb1.size,(AP.out i hi).2⟩
 clear BX0 HB3 hb1 d0 d1 d2 d3 d4 d5 d6 d7 d8 d9
 have HK9:Hid (m.kind<9):=ld (by have:=HFM.out.kind;omega)
 obtain ⟨d0,d1,d2,d3,d4,d5,d6,d7,d8,d9⟩:=BX.out.1.d
 clear d2 d4 d5 d6 d7
 have c6:=ND.out.c6
 go_wp2_with (fail)
 by_cases q:p.term<m.term
 ·have a1:(p.term:Int)<(m.term:Int):=by omega
  have a2:decide (p.term<m.term)=true:=decide_eq_true q
  have HQ:=ld q
  go_quiet (fail)
  replace ND:=ld (ND.out.drewN nq)
  replace GR:=ld (GR.out.below (below_drewN' (Below.refl _ _) nq))
  replace BX:Hid (BoxAt (WV.drewN nq) y m A n c∧¬ (F y∨G y)):=ld BX.out
  replace EN:Hid (EntsS (WV.drewN nq) S A qs):=ld (EN.out.keep fun _ _=>rfl)
  replace AP:Hid (Apart (WV.drewN nq) S F G):=ld AP.out
  clear c6 d0 d1 d3 d8 d9
  generalize WV.drewN nq=WV at ND GR BX EN AP ⊢
  obtain ⟨d0,d1,d2,d3,d4,d5,d6,d7,d8,d9⟩:=BX.out.1.d
  clear d2 d4 d5 d6 d7
  have c6:=ND.out.c6
  by_cases q1:m.kind=1
  ·have k1:((m.kind:Int)==1)=true:=by rw [beq_iff_eq];omega
   have k1b:((m.kind:Int) != 1)=false:=by rw [bne_eq_false_iff_eq];omega
   have k3:((m.kind:Int)==3)=false:=by rw [beq_eq_false_iff_ne];omega
   have k3b:((m.kind:Int) != 3)=true:=by rw [bne_iff_ne];omega
   have k2:((m.kind:Int)==2)=false:=by rw [beq_eq_false_iff_ne];omega
   have k2b:((m.kind:Int) != 2)=true:=by rw [bne_iff_ne];omega
   have k5:((m.kind:Int)==5)=false:=by rw [beq_eq_false_iff_ne];omega
   have k5b:((m.kind:Int) != 5)=true:=by rw [bne_iff_ne];omega
   have k7:((m.kind:Int)==7)=false:=by rw [beq_eq_false_iff_ne];omega
   have k7b:((m.kind:Int) != 7)=true:=by rw [bne_iff_ne];omega
   have HK:=ld q1
   obtain ⟨lb,hlb⟩:∃ lb,lb=Rf.led cf p:=⟨_,rfl⟩
   have HLB:=ld hlb.symm
   clear hlb q1
   go_wp2_with (fail)
   refine (led_any ND.out).mono ?_
   rintro e w9 ⟨rfl,nq,rfl⟩
   replace ND:=ld (ND.out.drewN nq)
   replace GR:=ld (GR.out.below (below_drewN' (Below.refl _ _) nq))
   replace BX:Hid (BoxAt (WV.drewN nq) y m A n c∧¬ (F y∨G y)):=ld BX.out
   replace EN:Hid (EntsS (WV.drewN nq) S A qs):=ld (EN.out.keep fun _ _=>rfl)
   replace AP:Hid (Apart (WV.drewN nq) S F G):=ld AP.out
   clear c6 d0 d1 d3 d8 d9
   generalize WV.drewN nq=WV at ND GR BX EN AP ⊢
   obtain ⟨d0,d1,d2,d3,d4,d5,d6,d7,d8,d9⟩:=BX.out.1.d
   clear d2 d4 d5 d6 d7
   have c6:=ND.out.c6
   rw [HLB.out]
   cases lb with
   | true =>
    have HE:Hid (Rf.message cf draw m p=(p,[])):=ld (by unfold Rf.message;rw [if_pos ⟨.inl HK.out,HQ.out,HLB.out⟩])
    go_wp2
    go_ret
    rw [HE.out,List.append_nil]
    exact ⟨rfl,F,G,ND.out,GR.out⟩
   | false =>
    have a3:¬ (m.term:Int)<(p.term:Int):=by have:=HQ.out;omega
    have a3b:decide (m.term<p.term)=false:=decide_eq_false (by have:=HQ.out;omega)
    go_wp2_with (fail)
    go_quiet (fail)
    replace ND:=ld (ND.out.drewN nq)
    replace GR:=ld (GR.out.below (below_drewN' (Below.refl _ _) nq))
    replace BX:Hid (BoxAt (WV.drewN nq) y m A n c∧¬ (F y∨G y)):=ld BX.out
    replace EN:Hid (EntsS (WV.drewN nq) S A qs):=ld (EN.out.keep fun _ _=>rfl)
    replace AP:Hid (Apart (WV.drewN nq) S F G):=ld AP.out
    clear c6 d0 d1 d3 d8 d9
    generalize WV.drewN nq=WV at ND GR BX EN AP ⊢
    obtain ⟨d0,d1,d2,d3,d4,d5,d6,d7,d8,d9⟩:=BX.out.1.d
    clear d2 d4 d5 d6 d7
    have c6:=ND.out.c6
    have HE:Hid (Rf.message cf draw m p=Rf.kinds cf draw m (p)):=ld (by unfold Rf.message;rw [if_neg (fun h=>by rw [HLB.out] at h;exact absurd h.2.2 (by decide)),if_neg (fun h=>h.2.1 HK.out),if_neg (by have:=HQ.out;omega)])
    clear c6 d0 d1 d3 d8 d9
    go_wp2_with (fail)
    have hyb:y<WV.drew.heap.size:=BX.out.1.lt
    have BXd:Hid (BoxAt WV.drew y m A n c):=ld BX.out.1
    refine wp_region_held_drew (S:=fun W:World=>BoxAt W y m A n c) (by kernel_rfl) BXd.out (fun hHeld=>?_)
    refine tkG260 1 (.pointer (some ⟨y,0,none⟩)) ?_
    refine tkG260 2 (.int .i64 (m.kind:Int)) ?_
    refine tkG260 6 (.pointer (some ⟨b,0,none⟩)) ?_
    refine tkG260 7 (.agg #[.int .i64 m.kind,.int .i64 m.src,.int .i64 m.dst,.int .i64 m.term,.int .i64 m.idx,.int .i64 m.lt,.int .i64 m.commit,.slice A n c,.bool m.rej,.int .i64 m.hint]) ?_
    refine rdy 0 fun K hK=>?_
    go_simp
    refine (kinds_any _).mono ?_
    rintro e w3 ⟨y3,rfl,hb3,hk3,hl3⟩
    have hb3':Below WV.heap.size WV w3:=⟨hb3.os,hb3.tape,hb3.output,hb3.size,hb3.block⟩
    have ND3:=ld (ND.out.below hb3')
    have GR3:=ld (GR.out.below hb3')
    have BX3:Hid (BoxAt w3 y m A n c):=ld (BX.out.1.below hb3')
    have EN3:Hid (EntsS w3 S A qs):=ld (EN.out.keep fun i hi=>hb3'.block i (AP.out i hi).1)
    have AP3:Hid (Apart w3 S F G):=ld fun i hi=>⟨Nat.lt_of_lt_of_le (AP.out i hi).1 hb3'.size,(AP.out i hi).2⟩
    have c98:w3.cell? ⟨y3,m.kind,none⟩=some (.func (.func fid) #[] #[]):=cell_block hk3 m.kind _ HFID.out
    clear hb3 hb3' hk3 hl3
    go_wp2_with fail
    refine hks hK ?_ fun hHeld=>?_
    ·exact BX3.out
    clear hK K
    refine tkG261 3 (.pointer (some ⟨y3,m.kind,none⟩)) ?_
    refine tkG260 4 (.pointer (some ⟨y3,m.kind,none⟩)) ?_
    refine rdy 5 fun K hK=>?_
    go_simp
    refine hks hK ?_ fun hHeld=>?_
    ·exact BX3.out
    clear hK K
    refine rdy 8 fun K hK=>?_
    have heg:=HEG.out
    go_simp
    clear heg
    refine (HDO.out w3 (p) (.inl ⟨rfl,fun h=>absurd h (by rw [HK.out];decide)⟩) ND3.out EN3.out AP3.out).mono ?_
    rintro e w5 ⟨rfl,F5,G5,hn5,hg5⟩
    have ND5:=ld hn5
    have GR5:=ld (GR3.out.trans hg5)
    have BX5:=ld (BX3.out.grew BX.out.2 hg5).1
    clear hn5 hg5
    go_wp2_with fail
    refine hks hK ?_ fun hHeld=>?_
    ·exact BX5.out
    clear hK K
    refine don ?_
    clear hHeld
    go_wp2
    go_ret
    rw [HE.out]
    exact ⟨rfl,F5,G5,ND5.out,GR5.out⟩
  ·by_cases q3:m.kind=3
   ·have k1:((m.kind:Int)==1)=false:=by rw [beq_eq_false_iff_ne];omega
    have k1b:((m.kind:Int) != 1)=true:=by rw [bne_iff_ne];omega
    have k3:((m.kind:Int)==3)=true:=by rw [beq_iff_eq];omega
    have k3b:((m.kind:Int) != 3)=false:=by rw [bne_eq_false_iff_eq];omega
    have k2:((m.kind:Int)==2)=false:=by rw [beq_eq_false_iff_ne];omega
    have k2b:((m.kind:Int) != 2)=true:=by rw [bne_iff_ne];omega
    have k5:((m.kind:Int)==5)=false:=by rw [beq_eq_false_iff_ne];omega
    have k5b:((m.kind:Int) != 5)=true:=by rw [bne_iff_ne];omega
    have k7:((m.kind:Int)==7)=false:=by rw [beq_eq_false_iff_ne];omega
    have k7b:((m.kind:Int) != 7)=true:=by rw [bne_iff_ne];omega
    have HK:=ld q3
    have hh0:=HH3.out q3
    rw [hh0] at d9
    have d9z:WV.cell? ⟨y,9,none⟩=some (.int .i64 0):=d9
    clear hh0
    obtain ⟨lb,hlb⟩:∃ lb,lb=Rf.led cf p:=⟨_,rfl⟩
    have HLB:=ld hlb.symm
    clear hlb q3
    go_wp2_with (fail)
    refine (led_any ND.out).mono ?_
    rintro e w9 ⟨rfl,nq,rfl⟩
    replace ND:=ld (ND.out.drewN nq)
    replace GR:=ld (GR.out.below (below_drewN' (Below.refl _ _) nq))
    replace BX:Hid (BoxAt (WV.drewN nq) y m A n c∧¬ (F y∨G y)):=ld BX.out
    replace EN:Hid (EntsS (WV.drewN nq) S A qs):=ld (EN.out.keep fun _ _=>rfl)
    replace AP:Hid (Apart (WV.drewN nq) S F G):=ld AP.out
    clear c6 d0 d1 d3 d8 d9
    generalize WV.drewN nq=WV at ND GR BX EN AP ⊢
    obtain ⟨d0,d1,d2,d3,d4,d5,d6,d7,d8,d9⟩:=BX.out.1.d
    clear d2 d4 d5 d6 d7
    have c6:=ND.out.c6
    rw [HLB.out]
    rw [HH3.out HK.out] at d9
    have d9z:WV.cell? ⟨y,9,none⟩=some (.int .i64 0):=d9
    cases lb with
    | true =>
     have HE:Hid (Rf.message cf draw m p=(p,[])):=ld (by unfold Rf.message;rw [if_pos ⟨.inr HK.out,HQ.out,HLB.out⟩])
     go_wp2
     go_ret
     rw [HE.out,List.append_nil]
     exact ⟨rfl,F,G,ND.out,GR.out⟩
    | false =>
     have hld:(if m.kind=5 then m.src else 0)=0:=if_neg (by rw [HK.out];decide)
     have HLD:=ld hld
     clear hld
     go_wp2_with (fail)
     refine (follow_at' ND.out HF.out m.term (0)).mono ?_
     rintro e WF ⟨rfl,hn9,hg9⟩
     rw [←HLD.out] at hn9
     replace ND:=ld hn9
     replace GR:=ld (GR.out.trans hg9)
     replace BX:=ld (BX.out.1.grew BX.out.2 hg9)
     replace EN:Hid (EntsS WF S A qs):=ld (EN.out.grew AP.out hg9)
     replace AP:=ld (AP.out.grew hg9)
     clear hn9 hg9 c6 d0 d1 d3 d8 d9
     generalize WF=WV at ND GR BX EN AP ⊢
     obtain ⟨d0,d1,d2,d3,d4,d5,d6,d7,d8,d9⟩:=BX.out.1.d
     clear d2 d4 d5 d6 d7
     have c6:=ND.out.c6
     have HE:Hid (Rf.message cf draw m p=Rf.kinds cf draw m (Rf.follow cf draw m.term (if m.kind=5 then m.src else 0) p)):=ld (by unfold Rf.message;rw [if_neg (fun h=>by rw [HLB.out] at h;exact absurd h.2.2 (by decide)),if_pos ⟨HQ.out,by rw [HK.out];decide,.inl (by rw [HK.out];decide)⟩])
     clear c6 d0 d1 d3 d8 d9
     go_wp2_with (fail)
     have hyb:y<WV.drew.heap.size:=BX.out.1.lt
     have BXd:Hid (BoxAt WV.drew y m A n c):=ld BX.out.1
     refine wp_region_held_drew (S:=fun W:World=>BoxAt W y m A n c) (by kernel_rfl) BXd.out (fun hHeld=>?_)
     refine tkG260 1 (.pointer (some ⟨y,0,none⟩)) ?_
     refine tkG260 2 (.int .i64 (m.kind:Int)) ?_
     refine tkG260 6 (.pointer (some ⟨b,0,none⟩)) ?_
     refine tkG260 7 (.agg #[.int .i64 m.kind,.int .i64 m.src,.int .i64 m.dst,.int .i64 m.term,.int .i64 m.idx,.int .i64 m.lt,.int .i64 m.commit,.slice A n c,.bool m.rej,.int .i64 m.hint]) ?_
     refine rdy 0 fun K hK=>?_
     go_simp
     refine (kinds_any _).mono ?_
     rintro e w3 ⟨y3,rfl,hb3,hk3,hl3⟩
     have hb3':Below WV.heap.size WV w3:=⟨hb3.os,hb3.tape,hb3.output,hb3.size,hb3.block⟩
     have ND3:=ld (ND.out.below hb3')
     have GR3:=ld (GR.out.below hb3')
     have BX3:Hid (BoxAt w3 y m A n c):=ld (BX.out.1.below hb3')
     have EN3:Hid (EntsS w3 S A qs):=ld (EN.out.keep fun i hi=>hb3'.block i (AP.out i hi).1)
     have AP3:Hid (Apart w3 S F G):=ld fun i hi=>⟨Nat.lt_of_lt_of_le (AP.out i hi).1 hb3'.size,(AP.out i hi).2⟩
     have c98:w3.cell? ⟨y3,m.kind,none⟩=some (.func (.func fid) #[] #[]):=cell_block hk3 m.kind _ HFID.out
     clear hb3 hb3' hk3 hl3
     go_wp2_with fail
     refine hks hK ?_ fun hHeld=>?_
     ·exact BX3.out
     clear hK K
     refine tkG261 3 (.pointer (some ⟨y3,m.kind,none⟩)) ?_
     refine tkG260 4 (.pointer (some ⟨y3,m.kind,none⟩)) ?_
     refine rdy 5 fun K hK=>?_
     go_simp
     refine hks hK ?_ fun hHeld=>?_
     ·exact BX3.out
     clear hK K
     refine rdy 8 fun K hK=>?_
     have heg:=HEG.out
     go_simp
     clear heg
     refine (HDO.out w3 (Rf.follow cf draw m.term (if m.kind=5 then m.src else 0) p) (.inr ⟨HQ.out,rfl⟩) ND3.out EN3.out AP3.out).mono ?_
     rintro e w5 ⟨rfl,F5,G5,hn5,hg5⟩
     have ND5:=ld hn5
     have GR5:=ld (GR3.out.trans hg5)
     have BX5:=ld (BX3.out.grew BX.out.2 hg5).1
     clear hn5 hg5
     go_wp2_with fail
     refine hks hK ?_ fun hHeld=>?_
     ·exact BX5.out
     clear hK K
     refine don ?_
     clear hHeld
     go_wp2
     go_ret
     rw [HE.out]
     exact ⟨rfl,F5,G5,ND5.out,GR5.out⟩
   ·have HN1:=ld q1
    have HN3:=ld q3
    by_cases q2:m.kind=2
    ·have k1:((m.kind:Int)==1)=false:=by rw [beq_eq_false_iff_ne];omega
     have k1b:((m.kind:Int) != 1)=true:=by rw [bne_iff_ne];omega
     have k3:((m.kind:Int)==3)=false:=by rw [beq_eq_false_iff_ne];omega
     have k3b:((m.kind:Int) != 3)=true:=by rw [bne_iff_ne];omega
     have k2:((m.kind:Int)==2)=true:=by rw [beq_iff_eq];omega
     have k2b:((m.kind:Int) != 2)=false:=by rw [bne_eq_false_iff_eq];omega
     have k5:((m.kind:Int)==5)=false:=by rw [beq_eq_false_iff_ne];omega
     have k5b:((m.kind:Int) != 5)=true:=by rw [bne_iff_ne];omega
     have k7:((m.kind:Int)==7)=false:=by rw [beq_eq_false_iff_ne];omega
     have k7b:((m.kind:Int) != 7)=true:=by rw [bne_iff_ne];omega
     have HK:=ld q2
     clear q2
     rcases Bool.eq_false_or_eq_true m.rej with hr | hr
     ·rw [hr] at d8
      have HR:=ld hr
      clear hr
      have hld:(if m.kind=5 then m.src else 0)=0:=if_neg (by rw [HK.out];decide)
      have HLD:=ld hld
      clear hld
      go_wp2_with (fail)
      refine (follow_at' ND.out HF.out m.term (0)).mono ?_
      rintro e WF ⟨rfl,hn9,hg9⟩
      rw [←HLD.out] at hn9
      replace ND:=ld hn9
      replace GR:=ld (GR.out.trans hg9)
      replace BX:=ld (BX.out.1.grew BX.out.2 hg9)
      replace EN:Hid (EntsS WF S A qs):=ld (EN.out.grew AP.out hg9)
      replace AP:=ld (AP.out.grew hg9)
      clear hn9 hg9 c6 d0 d1 d3 d8 d9
      generalize WF=WV at ND GR BX EN AP ⊢
      obtain ⟨d0,d1,d2,d3,d4,d5,d6,d7,d8,d9⟩:=BX.out.1.d
      clear d2 d4 d5 d6 d7
      have c6:=ND.out.c6
      have HE:Hid (Rf.message cf draw m p=Rf.kinds cf draw m (Rf.follow cf draw m.term (if m.kind=5 then m.src else 0) p)):=ld (by unfold Rf.message;rw [if_neg (fun h=>h.1.elim HN1.out HN3.out),if_pos ⟨HQ.out,HN1.out,.inr HR.out⟩])
      clear c6 d0 d1 d3 d8 d9
      go_wp2_with (fail)
      have hyb:y<WV.drew.heap.size:=BX.out.1.lt
      have BXd:Hid (BoxAt WV.drew y m A n c):=ld BX.out.1
      refine wp_region_held_drew (S:=fun W:World=>BoxAt W y m A n c) (by kernel_rfl) BXd.out (fun hHeld=>?_)
      refine tkG260 1 (.pointer (some ⟨y,0,none⟩)) ?_
      refine tkG260 2 (.int .i64 (m.kind:Int)) ?_
      refine tkG260 6 (.pointer (some ⟨b,0,none⟩)) ?_
      refine tkG260 7 (.agg #[.int .i64 m.kind,.int .i64 m.src,.int .i64 m.dst,.int .i64 m.term,.int .i64 m.idx,.int .i64 m.lt,.int .i64 m.commit,.slice A n c,.bool m.rej,.int .i64 m.hint]) ?_
      refine rdy 0 fun K hK=>?_
      go_simp
      refine (kinds_any _).mono ?_
      rintro e w3 ⟨y3,rfl,hb3,hk3,hl3⟩
      have hb3':Below WV.heap.size WV w3:=⟨hb3.os,hb3.tape,hb3.output,hb3.size,hb3.block⟩
      have ND3:=ld (ND.out.below hb3')
      have GR3:=ld (GR.out.below hb3')
      have BX3:Hid (BoxAt w3 y m A n c):=ld (BX.out.1.below hb3')
      have EN3:Hid (EntsS w3 S A qs):=ld (EN.out.keep fun i hi=>hb3'.block i (AP.out i hi).1)
      have AP3:Hid (Apart w3 S F G):=ld fun i hi=>⟨Nat.lt_of_lt_of_le (AP.out i hi).1 hb3'.size,(AP.out i hi).2⟩
      have c98:w3.cell? ⟨y3,m.kind,none⟩=some (.func (.func fid) #[] #[]):=cell_block hk3 m.kind _ HFID.out
      clear hb3 hb3' hk3 hl3
      go_wp2_with fail
      refine hks hK ?_ fun hHeld=>?_
      ·exact BX3.out
      clear hK K
      refine tkG261 3 (.pointer (some ⟨y3,m.kind,none⟩)) ?_
      refine tkG260 4 (.pointer (some ⟨y3,m.kind,none⟩)) ?_
      refine rdy 5 fun K hK=>?_
      go_simp
      refine hks hK ?_ fun hHeld=>?_
      ·exact BX3.out
      clear hK K
      refine rdy 8 fun K hK=>?_
      have heg:=HEG.out
      go_simp
      clear heg
      refine (HDO.out w3 (Rf.follow cf draw m.term (if m.kind=5 then m.src else 0) p) (.inr ⟨HQ.out,rfl⟩) ND3.out EN3.out AP3.out).mono ?_
      rintro e w5 ⟨rfl,F5,G5,hn5,hg5⟩
      have ND5:=ld hn5
      have GR5:=ld (GR3.out.trans hg5)
      have BX5:=ld (BX3.out.grew BX.out.2 hg5).1
      clear hn5 hg5
      go_wp2_with fail
      refine hks hK ?_ fun hHeld=>?_
      ·exact BX5.out
      clear hK K
      refine don ?_
      clear hHeld
      go_wp2
      go_ret
      rw [HE.out]
      exact ⟨rfl,F5,G5,ND5.out,GR5.out⟩
     ·rw [hr] at d8
      have HR:=ld hr
      clear hr
      have a3:¬ (m.term:Int)<(p.term:Int):=by have:=HQ.out;omega
      have a3b:decide (m.term<p.term)=false:=decide_eq_false (by have:=HQ.out;omega)
      go_wp2_with (fail)
      go_quiet (fail)
      replace ND:=ld (ND.out.drewN nq)
      replace GR:=ld (GR.out.below (below_drewN' (Below.refl _ _) nq))
      replace BX:Hid (BoxAt (WV.drewN nq) y m A n c∧¬ (F y∨G y)):=ld BX.out
      replace EN:Hid (EntsS (WV.drewN nq) S A qs):=ld (EN.out.keep fun _ _=>rfl)
      replace AP:Hid (Apart (WV.drewN nq) S F G):=ld AP.out
      clear c6 d0 d1 d3 d8 d9
      generalize WV.drewN nq=WV at ND GR BX EN AP ⊢
      obtain ⟨d0,d1,d2,d3,d4,d5,d6,d7,d8,d9⟩:=BX.out.1.d
      clear d2 d4 d5 d6 d7
      have c6:=ND.out.c6
      have HE:Hid (Rf.message cf draw m p=Rf.kinds cf draw m (p)):=ld (by unfold Rf.message;rw [if_neg (fun h=>h.1.elim HN1.out HN3.out),if_neg (fun h=>h.2.2.elim (fun h=>h HK.out) (fun h=>by rw [HR.out] at h;exact absurd h (by decide))),if_neg (by have:=HQ.out;omega)])
      clear c6 d0 d1 d3 d8 d9
      go_wp2_with (fail)
      have hyb:y<WV.drew.heap.size:=BX.out.1.lt
      have BXd:Hid (BoxAt WV.drew y m A n c):=ld BX.out.1
      refine wp_region_held_drew (S:=fun W:World=>BoxAt W y m A n c) (by kernel_rfl) BXd.out (fun hHeld=>?_)
      refine tkG260 1 (.pointer (some ⟨y,0,none⟩)) ?_
      refine tkG260 2 (.int .i64 (m.kind:Int)) ?_
      refine tkG260 6 (.pointer (some ⟨b,0,none⟩)) ?_
      refine tkG260 7 (.agg #[.int .i64 m.kind,.int .i64 m.src,.int .i64 m.dst,.int .i64 m.term,.int .i64 m.idx,.int .i64 m.lt,.int .i64 m.commit,.slice A n c,.bool m.rej,.int .i64 m.hint]) ?_
      refine rdy 0 fun K hK=>?_
      go_simp
      refine (kinds_any _).mono ?_
      rintro e w3 ⟨y3,rfl,hb3,hk3,hl3⟩
      have hb3':Below WV.heap.size WV w3:=⟨hb3.os,hb3.tape,hb3.output,hb3.size,hb3.block⟩
      have ND3:=ld (ND.out.below hb3')
      have GR3:=ld (GR.out.below hb3')
      have BX3:Hid (BoxAt w3 y m A n c):=ld (BX.out.1.below hb3')
      have EN3:Hid (EntsS w3 S A qs):=ld (EN.out.keep fun i hi=>hb3'.block i (AP.out i hi).1)
      have AP3:Hid (Apart w3 S F G):=ld fun i hi=>⟨Nat.lt_of_lt_of_le (AP.out i hi).1 hb3'.size,(AP.out i hi).2⟩
      have c98:w3.cell? ⟨y3,m.kind,none⟩=some (.func (.func fid) #[] #[]):=cell_block hk3 m.kind _ HFID.out
      clear hb3 hb3' hk3 hl3
      go_wp2_with fail
      refine hks hK ?_ fun hHeld=>?_
      ·exact BX3.out
      clear hK K
      refine tkG261 3 (.pointer (some ⟨y3,m.kind,none⟩)) ?_
      refine tkG260 4 (.pointer (some ⟨y3,m.kind,none⟩)) ?_
      refine rdy 5 fun K hK=>?_
      go_simp
      refine hks hK ?_ fun hHeld=>?_
      ·exact BX3.out
      clear hK K
      refine rdy 8 fun K hK=>?_
      have heg:=HEG.out
      go_simp
      clear heg
      refine (HDO.out w3 (p) (.inl ⟨rfl,fun h=>absurd h (by rw [HK.out];decide)⟩) ND3.out EN3.out AP3.out).mono ?_
      rintro e w5 ⟨rfl,F5,G5,hn5,hg5⟩
      have ND5:=ld hn5
      have GR5:=ld (GR3.out.trans hg5)
      have BX5:=ld (BX3.out.grew BX.out.2 hg5).1
      clear hn5 hg5
      go_wp2_with fail
      refine hks hK ?_ fun hHeld=>?_
      ·exact BX5.out
      clear hK K
      refine don ?_
      clear hHeld
      go_wp2
      go_ret
      rw [HE.out]
      exact ⟨rfl,F5,G5,ND5.out,GR5.out⟩
    ·by_cases q5:m.kind=5
     ·have k1:((m.kind:Int)==1)=false:=by rw [beq_eq_false_iff_ne];omega
      have k1b:((m.kind:Int) != 1)=true:=by rw [bne_iff_ne];omega
      have k3:((m.kind:Int)==3)=false:=by rw [beq_eq_false_iff_ne];omega
      have k3b:((m.kind:Int) != 3)=true:=by rw [bne_iff_ne];omega
      have k2:((m.kind:Int)==2)=false:=by rw [beq_eq_false_iff_ne];omega
      have k2b:((m.kind:Int) != 2)=true:=by rw [bne_iff_ne];omega
      have k5:((m.kind:Int)==5)=true:=by rw [beq_iff_eq];omega
      have k5b:((m.kind:Int) != 5)=false:=by rw [bne_eq_false_iff_eq];omega
      have k7:((m.kind:Int)==7)=false:=by rw [beq_eq_false_iff_ne];omega
      have k7b:((m.kind:Int) != 7)=true:=by rw [bne_iff_ne];omega
      have HK:=ld q5
      clear q5
      have hld:(if m.kind=5 then m.src else 0)=m.src:=if_pos HK.out
      have HLD:=ld hld
      clear hld
      go_wp2_with (fail)
      refine (follow_at' ND.out HF.out m.term (m.src)).mono ?_
      rintro e WF ⟨rfl,hn9,hg9⟩
      rw [←HLD.out] at hn9
      replace ND:=ld hn9
      replace GR:=ld (GR.out.trans hg9)
      replace BX:=ld (BX.out.1.grew BX.out.2 hg9)
      replace EN:Hid (EntsS WF S A qs):=ld (EN.out.grew AP.out hg9)
      replace AP:=ld (AP.out.grew hg9)
      clear hn9 hg9 c6 d0 d1 d3 d8 d9
      generalize WF=WV at ND GR BX EN AP ⊢
      obtain ⟨d0,d1,d2,d3,d4,d5,d6,d7,d8,d9⟩:=BX.out.1.d
      clear d2 d4 d5 d6 d7
      have c6:=ND.out.c6
      have HE:Hid (Rf.message cf draw m p=Rf.kinds cf draw m (Rf.follow cf draw m.term (if m.kind=5 then m.src else 0) p)):=ld (by unfold Rf.message;rw [if_neg (fun h=>h.1.elim HN1.out HN3.out),if_pos ⟨HQ.out,HN1.out,.inl (by rw [HK.out];decide)⟩])
      clear c6 d0 d1 d3 d8 d9
      go_wp2_with (fail)
      have hyb:y<WV.drew.heap.size:=BX.out.1.lt
      have BXd:Hid (BoxAt WV.drew y m A n c):=ld BX.out.1
      refine wp_region_held_drew (S:=fun W:World=>BoxAt W y m A n c) (by kernel_rfl) BXd.out (fun hHeld=>?_)
      refine tkG260 1 (.pointer (some ⟨y,0,none⟩)) ?_
      refine tkG260 2 (.int .i64 (m.kind:Int)) ?_
      refine tkG260 6 (.pointer (some ⟨b,0,none⟩)) ?_
      refine tkG260 7 (.agg #[.int .i64 m.kind,.int .i64 m.src,.int .i64 m.dst,.int .i64 m.term,.int .i64 m.idx,.int .i64 m.lt,.int .i64 m.commit,.slice A n c,.bool m.rej,.int .i64 m.hint]) ?_
      refine rdy 0 fun K hK=>?_
      go_simp
      refine (kinds_any _).mono ?_
      rintro e w3 ⟨y3,rfl,hb3,hk3,hl3⟩
      have hb3':Below WV.heap.size WV w3:=⟨hb3.os,hb3.tape,hb3.output,hb3.size,hb3.block⟩
      have ND3:=ld (ND.out.below hb3')
      have GR3:=ld (GR.out.below hb3')
      have BX3:Hid (BoxAt w3 y m A n c):=ld (BX.out.1.below hb3')
      have EN3:Hid (EntsS w3 S A qs):=ld (EN.out.keep fun i hi=>hb3'.block i (AP.out i hi).1)
      have AP3:Hid (Apart w3 S F G):=ld fun i hi=>⟨Nat.lt_of_lt_of_le (AP.out i hi).1 hb3'.size,(AP.out i hi).2⟩
      have c98:w3.cell? ⟨y3,m.kind,none⟩=some (.func (.func fid) #[] #[]):=cell_block hk3 m.kind _ HFID.out
      clear hb3 hb3' hk3 hl3
      go_wp2_with fail
      refine hks hK ?_ fun hHeld=>?_
      ·exact BX3.out
      clear hK K
      refine tkG261 3 (.pointer (some ⟨y3,m.kind,none⟩)) ?_
      refine tkG260 4 (.pointer (some ⟨y3,m.kind,none⟩)) ?_
      refine rdy 5 fun K hK=>?_
      go_simp
      refine hks hK ?_ fun hHeld=>?_
      ·exact BX3.out
      clear hK K
      refine rdy 8 fun K hK=>?_
      have heg:=HEG.out
      go_simp
      clear heg
      refine (HDO.out w3 (Rf.follow cf draw m.term (if m.kind=5 then m.src else 0) p) (.inr ⟨HQ.out,rfl⟩) ND3.out EN3.out AP3.out).mono ?_
      rintro e w5 ⟨rfl,F5,G5,hn5,hg5⟩
      have ND5:=ld hn5
      have GR5:=ld (GR3.out.trans hg5)
      have BX5:=ld (BX3.out.grew BX.out.2 hg5).1
      clear hn5 hg5
      go_wp2_with fail
      refine hks hK ?_ fun hHeld=>?_
      ·exact BX5.out
      clear hK K
      refine don ?_
      clear hHeld
      go_wp2
      go_ret
      rw [HE.out]
      exact ⟨rfl,F5,G5,ND5.out,GR5.out⟩
     ·have hk7:m.kind≠7:=by have:=HFM.out.kind;omega
      have k1:((m.kind:Int)==1)=false:=by rw [beq_eq_false_iff_ne];omega
      have k1b:((m.kind:Int) != 1)=true:=by rw [bne_iff_ne];omega
      have k3:((m.kind:Int)==3)=false:=by rw [beq_eq_false_iff_ne];omega
      have k3b:((m.kind:Int) != 3)=true:=by rw [bne_iff_ne];omega
      have k2:((m.kind:Int)==2)=false:=by rw [beq_eq_false_iff_ne];omega
      have k2b:((m.kind:Int) != 2)=true:=by rw [bne_iff_ne];omega
      have k5:((m.kind:Int)==5)=false:=by rw [beq_eq_false_iff_ne];omega
      have k5b:((m.kind:Int) != 5)=true:=by rw [bne_iff_ne];omega
      have k7:((m.kind:Int)==7)=false:=by rw [beq_eq_false_iff_ne];omega
      have k7b:((m.kind:Int) != 7)=true:=by rw [bne_iff_ne];omega
      have HK5:=ld q5
      have HK2:=ld q2
      clear q5 q2 hk7
      have hld:(if m.kind=5 then m.src else 0)=0:=if_neg HK5.out
      have HLD:=ld hld
      clear hld
      go_wp2_with (fail)
      refine (follow_at' ND.out HF.out m.term (0)).mono ?_
      rintro e WF ⟨rfl,hn9,hg9⟩
      rw [←HLD.out] at hn9
      replace ND:=ld hn9
      replace GR:=ld (GR.out.trans hg9)
      replace BX:=ld (BX.out.1.grew BX.out.2 hg9)
      replace EN:Hid (EntsS WF S A qs):=ld (EN.out.grew AP.out hg9)
      replace AP:=ld (AP.out.grew hg9)
      clear hn9 hg9 c6 d0 d1 d3 d8 d9
      generalize WF=WV at ND GR BX EN AP ⊢
      obtain ⟨d0,d1,d2,d3,d4,d5,d6,d7,d8,d9⟩:=BX.out.1.d
      clear d2 d4 d5 d6 d7
      have c6:=ND.out.c6
      have HE:Hid (Rf.message cf draw m p=Rf.kinds cf draw m (Rf.follow cf draw m.term (if m.kind=5 then m.src else 0) p)):=ld (by unfold Rf.message;rw [if_neg (fun h=>h.1.elim HN1.out HN3.out),if_pos ⟨HQ.out,HN1.out,.inl HK2.out⟩])
      clear c6 d0 d1 d3 d8 d9
      go_wp2_with (fail)
      have hyb:y<WV.drew.heap.size:=BX.out.1.lt
      have BXd:Hid (BoxAt WV.drew y m A n c):=ld BX.out.1
      refine wp_region_held_drew (S:=fun W:World=>BoxAt W y m A n c) (by kernel_rfl) BXd.out (fun hHeld=>?_)
      refine tkG260 1 (.pointer (some ⟨y,0,none⟩)) ?_
      refine tkG260 2 (.int .i64 (m.kind:Int)) ?_
      refine tkG260 6 (.pointer (some ⟨b,0,none⟩)) ?_
      refine tkG260 7 (.agg #[.int .i64 m.kind,.int .i64 m.src,.int .i64 m.dst,.int .i64 m.term,.int .i64 m.idx,.int .i64 m.lt,.int .i64 m.commit,.slice A n c,.bool m.rej,.int .i64 m.hint]) ?_
      refine rdy 0 fun K hK=>?_
      go_simp
      refine (kinds_any _).mono ?_
      rintro e w3 ⟨y3,rfl,hb3,hk3,hl3⟩
      have hb3':Below WV.heap.size WV w3:=⟨hb3.os,hb3.tape,hb3.output,hb3.size,hb3.block⟩
      have ND3:=ld (ND.out.below hb3')
      have GR3:=ld (GR.out.below hb3')
      have BX3:Hid (BoxAt w3 y m A n c):=ld (BX.out.1.below hb3')
      have EN3:Hid (EntsS w3 S A qs):=ld (EN.out.keep fun i hi=>hb3'.block i (AP.out i hi).1)
      have AP3:Hid (Apart w3 S F G):=ld fun i hi=>⟨Nat.lt_of_lt_of_le (AP.out i hi).1 hb3'.size,(AP.out i hi).2⟩
      have c98:w3.cell? ⟨y3,m.kind,none⟩=some (.func (.func fid) #[] #[]):=cell_block hk3 m.kind _ HFID.out
      clear hb3 hb3' hk3 hl3
      go_wp2_with fail
      refine hks hK ?_ fun hHeld=>?_
      ·exact BX3.out
      clear hK K
      refine tkG261 3 (.pointer (some ⟨y3,m.kind,none⟩)) ?_
      refine tkG260 4 (.pointer (some ⟨y3,m.kind,none⟩)) ?_
      refine rdy 5 fun K hK=>?_
      go_simp
      refine hks hK ?_ fun hHeld=>?_
      ·exact BX3.out
      clear hK K
      refine rdy 8 fun K hK=>?_
      have heg:=HEG.out
      go_simp
      clear heg
      refine (HDO.out w3 (Rf.follow cf draw m.term (if m.kind=5 then m.src else 0) p) (.inr ⟨HQ.out,rfl⟩) ND3.out EN3.out AP3.out).mono ?_
      rintro e w5 ⟨rfl,F5,G5,hn5,hg5⟩
      have ND5:=ld hn5
      have GR5:=ld (GR3.out.trans hg5)
      have BX5:=ld (BX3.out.grew BX.out.2 hg5).1
      clear hn5 hg5
      go_wp2_with fail
      refine hks hK ?_ fun hHeld=>?_
      ·exact BX5.out
      clear hK K
      refine don ?_
      clear hHeld
      go_wp2
      go_ret
      rw [HE.out]
      exact ⟨rfl,F5,G5,ND5.out,GR5.out⟩
 ·have a1:¬ (p.term:Int)<(m.term:Int):=by omega
  have a2:decide (p.term<m.term)=false:=decide_eq_false q
  have HQ:=ld q
  clear q
  go_quiet (fail)
  replace ND:=ld (ND.out.drewN nq)
  replace GR:=ld (GR.out.below (below_drewN' (Below.refl _ _) nq))
  replace BX:Hid (BoxAt (WV.drewN nq) y m A n c∧¬ (F y∨G y)):=ld BX.out
  replace EN:Hid (EntsS (WV.drewN nq) S A qs):=ld (EN.out.keep fun _ _=>rfl)
  replace AP:Hid (Apart (WV.drewN nq) S F G):=ld AP.out
  clear c6 d0 d1 d3 d8 d9
  generalize WV.drewN nq=WV at ND GR BX EN AP ⊢
  obtain ⟨d0,d1,d2,d3,d4,d5,d6,d7,d8,d9⟩:=BX.out.1.d
  clear d2 d4 d5 d6 d7
  have c6:=ND.out.c6
  by_cases q1:m.kind=1
  ·have k1:((m.kind:Int)==1)=true:=by rw [beq_iff_eq];omega
   have k1b:((m.kind:Int) != 1)=false:=by rw [bne_eq_false_iff_eq];omega
   clear q1
   by_cases r:m.term<p.term
   ·have a3:(m.term:Int)<(p.term:Int):=by omega
    have a3b:decide (m.term<p.term)=true:=decide_eq_true r
    have HE:Hid (Rf.message cf draw m p=(p,Rf.old m p)):=ld (by unfold Rf.message;rw [if_neg (fun h=>HQ.out h.2.1),if_neg (fun h=>HQ.out h.1),if_pos r])
    clear r
    go_wp2_with (fail)
    go_quiet (fail)
    replace ND:=ld (ND.out.drewN nq)
    replace GR:=ld (GR.out.below (below_drewN' (Below.refl _ _) nq))
    replace BX:Hid (BoxAt (WV.drewN nq) y m A n c∧¬ (F y∨G y)):=ld BX.out
    replace EN:Hid (EntsS (WV.drewN nq) S A qs):=ld (EN.out.keep fun _ _=>rfl)
    replace AP:Hid (Apart (WV.drewN nq) S F G):=ld AP.out
    clear c6 d0 d1 d3 d8 d9
    generalize WV.drewN nq=WV at ND GR BX EN AP ⊢
    obtain ⟨d0,d1,d2,d3,d4,d5,d6,d7,d8,d9⟩:=BX.out.1.d
    clear d2 d4 d5 d6 d7
    have c6:=ND.out.c6
    clear d0 d1 d3 d8 d9
    obtain ⟨d0,d1,d2,d3,d4,d5,d6,d7,d8,d9⟩:=BX.out.1.d
    go_wp2_with (fail)
    refine (old_any ND.out (by have:=HML.out;omega) m HFM.out.kind A n c).mono ?_
    rintro e w9 ⟨rfl,F9,G9,hn9,hg9⟩
    have HN9:=ld hn9
    have HG9:=ld (GR.out.trans hg9)
    clear hn9 hg9
    go_wp2
    go_ret
    rw [HE.out]
    exact ⟨rfl,F9,G9,HN9.out,HG9.out⟩
   ·have a3:¬ (m.term:Int)<(p.term:Int):=by omega
    have a3b:decide (m.term<p.term)=false:=decide_eq_false r
    have HR:=ld r
    clear r
    go_wp2_with (fail)
    go_quiet (fail)
    replace ND:=ld (ND.out.drewN nq)
    replace GR:=ld (GR.out.below (below_drewN' (Below.refl _ _) nq))
    replace BX:Hid (BoxAt (WV.drewN nq) y m A n c∧¬ (F y∨G y)):=ld BX.out
    replace EN:Hid (EntsS (WV.drewN nq) S A qs):=ld (EN.out.keep fun _ _=>rfl)
    replace AP:Hid (Apart (WV.drewN nq) S F G):=ld AP.out
    clear c6 d0 d1 d3 d8 d9
    generalize WV.drewN nq=WV at ND GR BX EN AP ⊢
    obtain ⟨d0,d1,d2,d3,d4,d5,d6,d7,d8,d9⟩:=BX.out.1.d
    clear d2 d4 d5 d6 d7
    have c6:=ND.out.c6
    have HE:Hid (Rf.message cf draw m p=Rf.kinds cf draw m (p)):=ld (by unfold Rf.message;rw [if_neg (fun h=>HQ.out h.2.1),if_neg (fun h=>HQ.out h.1),if_neg HR.out])
    clear c6 d0 d1 d3 d8 d9
    go_wp2_with (fail)
    have hyb:y<WV.drew.heap.size:=BX.out.1.lt
    have BXd:Hid (BoxAt WV.drew y m A n c):=ld BX.out.1
    refine wp_region_held_drew (S:=fun W:World=>BoxAt W y m A n c) (by kernel_rfl) BXd.out (fun hHeld=>?_)
    refine tkG260 1 (.pointer (some ⟨y,0,none⟩)) ?_
    refine tkG260 2 (.int .i64 (m.kind:Int)) ?_
    refine tkG260 6 (.pointer (some ⟨b,0,none⟩)) ?_
    refine tkG260 7 (.agg #[.int .i64 m.kind,.int .i64 m.src,.int .i64 m.dst,.int .i64 m.term,.int .i64 m.idx,.int .i64 m.lt,.int .i64 m.commit,.slice A n c,.bool m.rej,.int .i64 m.hint]) ?_
    refine rdy 0 fun K hK=>?_
    go_simp
    refine (kinds_any _).mono ?_
    rintro e w3 ⟨y3,rfl,hb3,hk3,hl3⟩
    have hb3':Below WV.heap.size WV w3:=⟨hb3.os,hb3.tape,hb3.output,hb3.size,hb3.block⟩
    have ND3:=ld (ND.out.below hb3')
    have GR3:=ld (GR.out.below hb3')
    have BX3:Hid (BoxAt w3 y m A n c):=ld (BX.out.1.below hb3')
    have EN3:Hid (EntsS w3 S A qs):=ld (EN.out.keep fun i hi=>hb3'.block i (AP.out i hi).1)
    have AP3:Hid (Apart w3 S F G):=ld fun i hi=>⟨Nat.lt_of_lt_of_le (AP.out i hi).1 hb3'.size,(AP.out i hi).2⟩
    have c98:w3.cell? ⟨y3,m.kind,none⟩=some (.func (.func fid) #[] #[]):=cell_block hk3 m.kind _ HFID.out
    clear hb3 hb3' hk3 hl3
    go_wp2_with fail
    refine hks hK ?_ fun hHeld=>?_
    ·exact BX3.out
    clear hK K
    refine tkG261 3 (.pointer (some ⟨y3,m.kind,none⟩)) ?_
    refine tkG260 4 (.pointer (some ⟨y3,m.kind,none⟩)) ?_
    refine rdy 5 fun K hK=>?_
    go_simp
    refine hks hK ?_ fun hHeld=>?_
    ·exact BX3.out
    clear hK K
    refine rdy 8 fun K hK=>?_
    have heg:=HEG.out
    go_simp
    clear heg
    refine (HDO.out w3 (p) (.inl ⟨rfl,fun _=>by have:=HQ.out;have:=HR.out;omega⟩) ND3.out EN3.out AP3.out).mono ?_
    rintro e w5 ⟨rfl,F5,G5,hn5,hg5⟩
    have ND5:=ld hn5
    have GR5:=ld (GR3.out.trans hg5)
    have BX5:=ld (BX3.out.grew BX.out.2 hg5).1
    clear hn5 hg5
    go_wp2_with fail
    refine hks hK ?_ fun hHeld=>?_
    ·exact BX5.out
    clear hK K
    refine don ?_
    clear hHeld
    go_wp2
    go_ret
    rw [HE.out]
    exact ⟨rfl,F5,G5,ND5.out,GR5.out⟩
  ·by_cases q3:m.kind=3
   ·have k1:((m.kind:Int)==1)=false:=by rw [beq_eq_false_iff_ne];omega
    have k1b:((m.kind:Int) != 1)=true:=by rw [bne_iff_ne];omega
    have k3:((m.kind:Int)==3)=true:=by rw [beq_iff_eq];omega
    have k3b:((m.kind:Int) != 3)=false:=by rw [bne_eq_false_iff_eq];omega
    have k2:((m.kind:Int)==2)=false:=by rw [beq_eq_false_iff_ne];omega
    have k2b:((m.kind:Int) != 2)=true:=by rw [bne_iff_ne];omega
    have k5:((m.kind:Int)==5)=false:=by rw [beq_eq_false_iff_ne];omega
    have k5b:((m.kind:Int) != 5)=true:=by rw [bne_iff_ne];omega
    have k7:((m.kind:Int)==7)=false:=by rw [beq_eq_false_iff_ne];omega
    have k7b:((m.kind:Int) != 7)=true:=by rw [bne_iff_ne];omega
    have hh0:=HH3.out q3
    rw [hh0] at d9
    have d9z:WV.cell? ⟨y,9,none⟩=some (.int .i64 0):=d9
    clear q3 hh0
    by_cases r:m.term<p.term
    ·have a3:(m.term:Int)<(p.term:Int):=by omega
     have a3b:decide (m.term<p.term)=true:=decide_eq_true r
     have HE:Hid (Rf.message cf draw m p=(p,Rf.old m p)):=ld (by unfold Rf.message;rw [if_neg (fun h=>HQ.out h.2.1),if_neg (fun h=>HQ.out h.1),if_pos r])
     clear r
     go_wp2_with (fail)
     go_quiet (fail)
     replace ND:=ld (ND.out.drewN nq)
     replace GR:=ld (GR.out.below (below_drewN' (Below.refl _ _) nq))
     replace BX:Hid (BoxAt (WV.drewN nq) y m A n c∧¬ (F y∨G y)):=ld BX.out
     replace EN:Hid (EntsS (WV.drewN nq) S A qs):=ld (EN.out.keep fun _ _=>rfl)
     replace AP:Hid (Apart (WV.drewN nq) S F G):=ld AP.out
     clear c6 d0 d1 d3 d8 d9
     generalize WV.drewN nq=WV at ND GR BX EN AP ⊢
     obtain ⟨d0,d1,d2,d3,d4,d5,d6,d7,d8,d9⟩:=BX.out.1.d
     clear d2 d4 d5 d6 d7
     have c6:=ND.out.c6
     clear d0 d1 d3 d8 d9
     obtain ⟨d0,d1,d2,d3,d4,d5,d6,d7,d8,d9⟩:=BX.out.1.d
     go_wp2_with (fail)
     refine (old_any ND.out (by have:=HML.out;omega) m HFM.out.kind A n c).mono ?_
     rintro e w9 ⟨rfl,F9,G9,hn9,hg9⟩
     have HN9:=ld hn9
     have HG9:=ld (GR.out.trans hg9)
     clear hn9 hg9
     go_wp2
     go_ret
     rw [HE.out]
     exact ⟨rfl,F9,G9,HN9.out,HG9.out⟩
    ·have a3:¬ (m.term:Int)<(p.term:Int):=by omega
     have a3b:decide (m.term<p.term)=false:=decide_eq_false r
     have HR:=ld r
     clear r
     go_wp2_with (fail)
     go_quiet (fail)
     replace ND:=ld (ND.out.drewN nq)
     replace GR:=ld (GR.out.below (below_drewN' (Below.refl _ _) nq))
     replace BX:Hid (BoxAt (WV.drewN nq) y m A n c∧¬ (F y∨G y)):=ld BX.out
     replace EN:Hid (EntsS (WV.drewN nq) S A qs):=ld (EN.out.keep fun _ _=>rfl)
     replace AP:Hid (Apart (WV.drewN nq) S F G):=ld AP.out
     clear c6 d0 d1 d3 d8 d9
     generalize WV.drewN nq=WV at ND GR BX EN AP ⊢
     obtain ⟨d0,d1,d2,d3,d4,d5,d6,d7,d8,d9⟩:=BX.out.1.d
     clear d2 d4 d5 d6 d7
     have c6:=ND.out.c6
     have HE:Hid (Rf.message cf draw m p=Rf.kinds cf draw m (p)):=ld (by unfold Rf.message;rw [if_neg (fun h=>HQ.out h.2.1),if_neg (fun h=>HQ.out h.1),if_neg HR.out])
     clear c6 d0 d1 d3 d8 d9
     go_wp2_with (fail)
     have hyb:y<WV.drew.heap.size:=BX.out.1.lt
     have BXd:Hid (BoxAt WV.drew y m A n c):=ld BX.out.1
     refine wp_region_held_drew (S:=fun W:World=>BoxAt W y m A n c) (by kernel_rfl) BXd.out (fun hHeld=>?_)
     refine tkG260 1 (.pointer (some ⟨y,0,none⟩)) ?_
     refine tkG260 2 (.int .i64 (m.kind:Int)) ?_
     refine tkG260 6 (.pointer (some ⟨b,0,none⟩)) ?_
     refine tkG260 7 (.agg #[.int .i64 m.kind,.int .i64 m.src,.int .i64 m.dst,.int .i64 m.term,.int .i64 m.idx,.int .i64 m.lt,.int .i64 m.commit,.slice A n c,.bool m.rej,.int .i64 m.hint]) ?_
     refine rdy 0 fun K hK=>?_
     go_simp
     refine (kinds_any _).mono ?_
     rintro e w3 ⟨y3,rfl,hb3,hk3,hl3⟩
     have hb3':Below WV.heap.size WV w3:=⟨hb3.os,hb3.tape,hb3.output,hb3.size,hb3.block⟩
     have ND3:=ld (ND.out.below hb3')
     have GR3:=ld (GR.out.below hb3')
     have BX3:Hid (BoxAt w3 y m A n c):=ld (BX.out.1.below hb3')
     have EN3:Hid (EntsS w3 S A qs):=ld (EN.out.keep fun i hi=>hb3'.block i (AP.out i hi).1)
     have AP3:Hid (Apart w3 S F G):=ld fun i hi=>⟨Nat.lt_of_lt_of_le (AP.out i hi).1 hb3'.size,(AP.out i hi).2⟩
     have c98:w3.cell? ⟨y3,m.kind,none⟩=some (.func (.func fid) #[] #[]):=cell_block hk3 m.kind _ HFID.out
     clear hb3 hb3' hk3 hl3
     go_wp2_with fail
     refine hks hK ?_ fun hHeld=>?_
     ·exact BX3.out
     clear hK K
     refine tkG261 3 (.pointer (some ⟨y3,m.kind,none⟩)) ?_
     refine tkG260 4 (.pointer (some ⟨y3,m.kind,none⟩)) ?_
     refine rdy 5 fun K hK=>?_
     go_simp
     refine hks hK ?_ fun hHeld=>?_
     ·exact BX3.out
     clear hK K
     refine rdy 8 fun K hK=>?_
     have heg:=HEG.out
     go_simp
     clear heg
     refine (HDO.out w3 (p) (.inl ⟨rfl,fun _=>by have:=HQ.out;have:=HR.out;omega⟩) ND3.out EN3.out AP3.out).mono ?_
     rintro e w5 ⟨rfl,F5,G5,hn5,hg5⟩
     have ND5:=ld hn5
     have GR5:=ld (GR3.out.trans hg5)
     have BX5:=ld (BX3.out.grew BX.out.2 hg5).1
     clear hn5 hg5
     go_wp2_with fail
     refine hks hK ?_ fun hHeld=>?_
     ·exact BX5.out
     clear hK K
     refine don ?_
     clear hHeld
     go_wp2
     go_ret
     rw [HE.out]
     exact ⟨rfl,F5,G5,ND5.out,GR5.out⟩
   ·have k1:((m.kind:Int)==1)=false:=by rw [beq_eq_false_iff_ne];omega
    have k1b:((m.kind:Int) != 1)=true:=by rw [bne_iff_ne];omega
    have k3:((m.kind:Int)==3)=false:=by rw [beq_eq_false_iff_ne];omega
    have k3b:((m.kind:Int) != 3)=true:=by rw [bne_iff_ne];omega
    clear q1 q3
    by_cases r:m.term<p.term
    ·have a3:(m.term:Int)<(p.term:Int):=by omega
     have a3b:decide (m.term<p.term)=true:=decide_eq_true r
     have HE:Hid (Rf.message cf draw m p=(p,Rf.old m p)):=ld (by unfold Rf.message;rw [if_neg (fun h=>HQ.out h.2.1),if_neg (fun h=>HQ.out h.1),if_pos r])
     clear r
     go_wp2_with (fail)
     go_quiet (fail)
     replace ND:=ld (ND.out.drewN nq)
     replace GR:=ld (GR.out.below (below_drewN' (Below.refl _ _) nq))
     replace BX:Hid (BoxAt (WV.drewN nq) y m A n c∧¬ (F y∨G y)):=ld BX.out
     replace EN:Hid (EntsS (WV.drewN nq) S A qs):=ld (EN.out.keep fun _ _=>rfl)
     replace AP:Hid (Apart (WV.drewN nq) S F G):=ld AP.out
     clear c6 d0 d1 d3 d8 d9
     generalize WV.drewN nq=WV at ND GR BX EN AP ⊢
     obtain ⟨d0,d1,d2,d3,d4,d5,d6,d7,d8,d9⟩:=BX.out.1.d
     clear d2 d4 d5 d6 d7
     have c6:=ND.out.c6
     clear d0 d1 d3 d8 d9
     obtain ⟨d0,d1,d2,d3,d4,d5,d6,d7,d8,d9⟩:=BX.out.1.d
     go_wp2_with (fail)
     refine (old_any ND.out (by have:=HML.out;omega) m HFM.out.kind A n c).mono ?_
     rintro e w9 ⟨rfl,F9,G9,hn9,hg9⟩
     have HN9:=ld hn9
     have HG9:=ld (GR.out.trans hg9)
     clear hn9 hg9
     go_wp2
     go_ret
     rw [HE.out]
     exact ⟨rfl,F9,G9,HN9.out,HG9.out⟩
    ·have a3:¬ (m.term:Int)<(p.term:Int):=by omega
     have a3b:decide (m.term<p.term)=false:=decide_eq_false r
     have HR:=ld r
     clear r
     go_wp2_with (fail)
     go_quiet (fail)
     replace ND:=ld (ND.out.drewN nq)
     replace GR:=ld (GR.out.below (below_drewN' (Below.refl _ _) nq))
     replace BX:Hid (BoxAt (WV.drewN nq) y m A n c∧¬ (F y∨G y)):=ld BX.out
     replace EN:Hid (EntsS (WV.drewN nq) S A qs):=ld (EN.out.keep fun _ _=>rfl)
     replace AP:Hid (Apart (WV.drewN nq) S F G):=ld AP.out
     clear c6 d0 d1 d3 d8 d9
     generalize WV.drewN nq=WV at ND GR BX EN AP ⊢
     obtain ⟨d0,d1,d2,d3,d4,d5,d6,d7,d8,d9⟩:=BX.out.1.d
     clear d2 d4 d5 d6 d7
     have c6:=ND.out.c6
     have HE:Hid (Rf.message cf draw m p=Rf.kinds cf draw m (p)):=ld (by unfold Rf.message;rw [if_neg (fun h=>HQ.out h.2.1),if_neg (fun h=>HQ.out h.1),if_neg HR.out])
     clear c6 d0 d1 d3 d8 d9
     go_wp2_with (fail)
     have hyb:y<WV.drew.heap.size:=BX.out.1.lt
     have BXd:Hid (BoxAt WV.drew y m A n c):=ld BX.out.1
     refine wp_region_held_drew (S:=fun W:World=>BoxAt W y m A n c) (by kernel_rfl) BXd.out (fun hHeld=>?_)
     refine tkG260 1 (.pointer (some ⟨y,0,none⟩)) ?_
     refine tkG260 2 (.int .i64 (m.kind:Int)) ?_
     refine tkG260 6 (.pointer (some ⟨b,0,none⟩)) ?_
     refine tkG260 7 (.agg #[.int .i64 m.kind,.int .i64 m.src,.int .i64 m.dst,.int .i64 m.term,.int .i64 m.idx,.int .i64 m.lt,.int .i64 m.commit,.slice A n c,.bool m.rej,.int .i64 m.hint]) ?_
     refine rdy 0 fun K hK=>?_
     go_simp
     refine (kinds_any _).mono ?_
     rintro e w3 ⟨y3,rfl,hb3,hk3,hl3⟩
     have hb3':Below WV.heap.size WV w3:=⟨hb3.os,hb3.tape,hb3.output,hb3.size,hb3.block⟩
     have ND3:=ld (ND.out.below hb3')
     have GR3:=ld (GR.out.below hb3')
     have BX3:Hid (BoxAt w3 y m A n c):=ld (BX.out.1.below hb3')
     have EN3:Hid (EntsS w3 S A qs):=ld (EN.out.keep fun i hi=>hb3'.block i (AP.out i hi).1)
     have AP3:Hid (Apart w3 S F G):=ld fun i hi=>⟨Nat.lt_of_lt_of_le (AP.out i hi).1 hb3'.size,(AP.out i hi).2⟩
     have c98:w3.cell? ⟨y3,m.kind,none⟩=some (.func (.func fid) #[] #[]):=cell_block hk3 m.kind _ HFID.out
     clear hb3 hb3' hk3 hl3
     go_wp2_with fail
     refine hks hK ?_ fun hHeld=>?_
     ·exact BX3.out
     clear hK K
     refine tkG261 3 (.pointer (some ⟨y3,m.kind,none⟩)) ?_
     refine tkG260 4 (.pointer (some ⟨y3,m.kind,none⟩)) ?_
     refine rdy 5 fun K hK=>?_
     go_simp
     refine hks hK ?_ fun hHeld=>?_
     ·exact BX3.out
     clear hK K
     refine rdy 8 fun K hK=>?_
     have heg:=HEG.out
     go_simp
     clear heg
     refine (HDO.out w3 (p) (.inl ⟨rfl,fun _=>by have:=HQ.out;have:=HR.out;omega⟩) ND3.out EN3.out AP3.out).mono ?_
     rintro e w5 ⟨rfl,F5,G5,hn5,hg5⟩
     have ND5:=ld hn5
     have GR5:=ld (GR3.out.trans hg5)
     have BX5:=ld (BX3.out.grew BX.out.2 hg5).1
     clear hn5 hg5
     go_wp2_with fail
     refine hks hK ?_ fun hHeld=>?_
     ·exact BX5.out
     clear hK K
     refine don ?_
     clear hHeld
     go_wp2
     go_ret
     rw [HE.out]
     exact ⟨rfl,F5,G5,ND5.out,GR5.out⟩
end
end Go.Proofs.YtocogcgnahbpkaaGreat
