import Derived.Test.YtocogcgnahbpkaaGreatC12
import Derived.Test.YtocogcgnahbpkaaGreatC23
namespace Go.Proofs.YtocogcgnahbpkaaGreat
open Go.RowKit
def mrOf (m:Rf.Msg) (A:Option Addr) (n c:Nat):MR:=⟨m.kind,m.src,m.dst,m.term,m.idx,m.lt,m.commit,A,n,c,m.rej,m.hint⟩
def isOther (cf:Rf.Cfg) (p:Rf.Nd) (q:Nat):Bool:=decide (q≠p.id∧1≤q∧q≤cf.n)
section
variable {w w1 w2:World} {F G:Nat→Prop} {b:Nat} {cf:Rf.Cfg} {draw:Int} {l0:List Rf.Ent} {p:Rf.Nd} {ms:List Rf.Msg}
theorem NodeAt.peers (h:NodeAt w F G b cf draw l0 p ms):∃ A n c,w.cell? ⟨b,1,none⟩=some (.slice A n c)∧Row encI 1 w w.heap.size A (ints (List.range' 1 cf.n))∧n=(ints (List.range' 1 cf.n)).length:=by
 obtain ⟨s,c,hN,hR,_⟩:=h
 have h2:=(Own.cap hN.rest.peers).1
 have hp:=hN.rest.peers
 rw [h2] at hp
 have h1:=hp.row len_I
 rw [hR.peers] at h1 h2
 exact ⟨_,_,_,nc1 hN.blk,h1,h2⟩
set_option maxRecDepth 100000 in
set_option maxHeartbeats 1000000 in
theorem isOther_any (h:NodeAt w F G b cf draw l0 p ms) (hf:Fits cf p) (q:Nat):Calls Tryz.prog 108 #[.pointer (some ⟨b,0,none⟩),.int .i64 q] w fun e w'=>e=.returned (.bool (isOther cf p q))∧∃ n,w'=w.drewN n:=by
 have c0:=h.c0
 obtain ⟨A,n,c,c1,hr,hn⟩:=h.peers
 have hl:(ints (List.range' 1 cf.n)).length≤1000000:=by have:=hf.n;simp [ints];omega
 have hmem:decide ((q:Int)∈ints (List.range' 1 cf.n))=(decide (1≤q)&&decide (q≤cf.n)):=by
  rw [←Bool.decide_and,decide_eq_decide]
  unfold ints
  rw [List.mem_map]
  constructor
  ·rintro ⟨k,hk,e⟩
   rw [List.mem_range'_1] at hk
   omega
  ·intro hq
   exact ⟨q,by rw [List.mem_range'_1];omega,rfl⟩
 generalize ints (List.range' 1 cf.n)=L at hr hn hl hmem
 subst hn
 have HM:=ld hmem
 clear hmem
 by_cases hq:q=p.id
 ·have hb:((q:Int) != (p.id:Int))=false:=by rw [bne_eq_false_iff_eq];omega
  have HE:Hid (isOther cf p q=false):=ld (by unfold isOther;simp [hq])
  clear h hf hq
  go_enter Tryz.func108,Tryz.ntmps108
  go_wp2
  refine bodyPost_ret (v:=.bool false) (results_tmp (t:=4) rfl _ _ _) rfl ?_
  exact ⟨by rw [HE.out],0,rfl⟩
 ·have hb:((q:Int) != (p.id:Int))=true:=by rw [bne_iff_ne];omega
  have HE:Hid (isOther cf p q=(decide (1≤q)&&decide (q≤cf.n))):=ld (by unfold isOther;simp [hq])
  clear h hf hq
  go_enter Tryz.func108,Tryz.ntmps108
  go_wp2_with (go_at_call 86;refine (contains_any A _ c L (q:Int) _ hr rfl hl).mono ?_;rintro e w' ⟨rfl,rfl⟩;rw [HM.out])
  refine bodyPost_ret (v:=.bool (decide (1≤q)&&decide (q≤cf.n))) (results_tmp (t:=4) rfl _ _ _) rfl ?_
  exact ⟨by rw [HE.out],0,rfl⟩
set_option maxRecDepth 100000 in
set_option maxHeartbeats 1000000 in
theorem led_any (h:NodeAt w F G b cf draw l0 p ms):Calls Tryz.prog 101 #[.pointer (some ⟨b,0,none⟩)] w fun e w'=>e=.returned (.bool (Rf.led cf p))∧∃ n,w'=w.drewN n:=by
 have c12:=h.c12
 have c13:=h.c13
 have c14:=h.c14
 have c2:=h.c2
 have hbl:=h.lt
 clear h
 by_cases h1:p.role=4
 ·have hb:((p.role:Int)==4)=true:=by rw [beq_iff_eq];omega
  have HE:Hid (Rf.led cf p=true):=ld (by unfold Rf.led;simp [h1])
  clear h1
  go_enter Tryz.func101,Tryz.ntmps101
  go_wp2
  go_quiet (fail)
  go_wp2
  go_ret
  exact ⟨by rw [HE.out];rfl,_,rfl⟩
 ·have hb:((p.role:Int)==4)=false:=by rw [beq_eq_false_iff_ne];omega
  by_cases h2:p.leader=0
  ·have hb2:((p.leader:Int) != 0)=false:=by rw [bne_eq_false_iff_eq];omega
   have HE:Hid (Rf.led cf p=false):=ld (by unfold Rf.led;simp [h1,h2])
   clear h1 h2
   go_enter Tryz.func101,Tryz.ntmps101
   go_wp2
   go_quiet (fail)
   go_wp2
   go_ret
   exact ⟨by rw [HE.out];rfl,_,rfl⟩
  ·have hb2:((p.leader:Int) != 0)=true:=by rw [bne_iff_ne];omega
   have HE:Hid (Rf.led cf p=decide (p.elapsed<cf.least)):=ld (by unfold Rf.led;rw [show (p.role==4)=false by simpa using h1,show (p.leader != 0)=true by simpa using h2];simp)
   clear h1 h2
   go_enter Tryz.func101,Tryz.ntmps101
   go_wp2
   go_quiet (fail)
   go_wp2
   go_ret
   exact ⟨by rw [HE.out];rfl,_,rfl⟩
def boxO (m:Rf.Msg) (A:Option Addr) (n c:Nat):Obj:=.cells #[.int .i64 m.kind,.int .i64 m.src,.int .i64 m.dst,.int .i64 m.term,.int .i64 m.idx,.int .i64 m.lt,.int .i64 m.commit,.slice A n c,.bool m.rej,.int .i64 m.hint] 59
theorem msgV_eq (m:Rf.Msg) (A:Option Addr) (n c:Nat):msgV (mrOf m A n c)=.agg #[.int .i64 m.kind,.int .i64 m.src,.int .i64 m.dst,.int .i64 m.term,.int .i64 m.idx,.int .i64 m.lt,.int .i64 m.commit,.slice A n c,.bool m.rej,.int .i64 m.hint]:=rfl
def BoxAt (w:World) (z:Nat) (m:Rf.Msg) (A:Option Addr) (n c:Nat):Prop:=w.heap[z]?=some (.cells #[.int .i64 m.kind,.int .i64 m.src,.int .i64 m.dst,.int .i64 m.term,.int .i64 m.idx,.int .i64 m.lt,.int .i64 m.commit,.slice A n c,.bool m.rej,.int .i64 m.hint] 59 (0,0))
theorem BoxAt.made (w:World) (m:Rf.Msg) (A:Option Addr) (n c:Nat):BoxAt (w.alloc (boxO m A n c)) w.heap.size m A n c:=World.alloc_at w _
theorem BoxAt.lt {w:World} {z:Nat} {m:Rf.Msg} {A:Option Addr} {n c:Nat} (h:BoxAt w z m A n c):z<w.heap.size:=block_lt h
theorem BoxAt.below {w w':World} {z:Nat} {m:Rf.Msg} {A:Option Addr} {n c:Nat} (h:BoxAt w z m A n c) (hb:Below w.heap.size w w'):BoxAt w' z m A n c:=(hb.block z h.lt).trans h
theorem BoxAt.chg {w w':World} {z:Nat} {m:Rf.Msg} {A:Option Addr} {n c:Nat} {F:Nat→Prop} (h:BoxAt w z m A n c) (hb:Chg F w w') (hz:¬ F z):BoxAt w' z m A n c:=(hb.keep h.lt hz).trans h
theorem BoxAt.d {w:World} {z:Nat} {m:Rf.Msg} {A:Option Addr} {n c:Nat} (h:BoxAt w z m A n c) :
  w.cell? ⟨z,0,none⟩=some (.int .i64 m.kind)∧w.cell? ⟨z,1,none⟩=some (.int .i64 m.src)∧w.cell? ⟨z,2,none⟩=some (.int .i64 m.dst)∧w.cell? ⟨z,3,none⟩=some (.int .i64 m.term)∧w.cell? ⟨z,4,none⟩=some (.int .i64 m.idx)∧w.cell? ⟨z,5,none⟩=some (.int .i64 m.lt)∧w.cell? ⟨z,6,none⟩=some (.int .i64 m.commit)∧w.cell? ⟨z,7,none⟩=some (.slice A n c)∧w.cell? ⟨z,8,none⟩=some (.bool m.rej)∧w.cell? ⟨z,9,none⟩=some (.int .i64 m.hint) :=
 ⟨cell_block h 0 _ rfl,cell_block h 1 _ rfl,cell_block h 2 _ rfl,cell_block h 3 _ rfl,cell_block h 4 _ rfl,cell_block h 5 _ rfl,cell_block h 6 _ rfl,cell_block h 7 _ rfl,cell_block h 8 _ rfl,cell_block h 9 _ rfl⟩
theorem BoxAt.fresh {w:World} {z:Nat} {F G:Nat→Prop} {b:Nat} {cf:Rf.Cfg} {draw:Int} {l0:List Rf.Ent} {p:Rf.Nd} {ms:List Rf.Msg} (h:NodeAt w F G b cf draw l0 p ms) (hz:z=w.heap.size):¬ (F z∨G z):=by
 subst hz
 rintro (hf | hg)
 ·exact Nat.lt_irrefl _ (h.bd.1 _ hf)
 ·exact Nat.lt_irrefl _ (h.bd.2.1 _ hg)
set_option maxRecDepth 100000 in
set_option maxHeartbeats 1000000 in
theorem good_any (h:NodeAt w F G b cf draw l0 p ms) (hf:Fits cf p) (m:Rf.Msg) (A:Option Addr) (n c:Nat):Calls Tryz.prog 156 #[.pointer (some ⟨b,0,none⟩),msgV (mrOf m A n c)] w fun e w'=>e=.returned (.bool (Rf.good m p))∧Below w.heap.size w w':=by
 rw [msgV_eq]
 have HND:=ld (h.below (below_one w (boxO m A n c)))
 have HBX:=ld (BoxAt.made w m A n c)
 have HB:=ld (below_one w (boxO m A n c))
 have HF:=ld hf
 obtain ⟨z,hz⟩:∃ z,z=w.heap.size:=⟨_,rfl⟩
 rw [←hz] at HBX
 obtain ⟨t,ht⟩:∃ t,t=p.tm p.log.length:=⟨_,rfl⟩
 clear h hf
 by_cases h1:t<m.lt
 ·have hb:(t:Int)<(m.lt:Int):=by omega
  have HE:Hid (Rf.good m p=true):=ld (by unfold Rf.good Rf.Nd.fin;rw [←ht];simp [h1])
  have HT:=ld ht
  clear ht
  go_enter Tryz.func156,Tryz.ntmps156
  go_upto_region 1 with (fail)
  rw [←hz,show w.alloc (.cells #[.int .i64 m.kind,.int .i64 m.src,.int .i64 m.dst,.int .i64 m.term,.int .i64 m.idx,.int .i64 m.lt,.int .i64 m.commit,.slice A n c,.bool m.rej,.int .i64 m.hint] 59)=w.alloc (boxO m A n c) from rfl]
  generalize w.alloc (boxO m A n c)=W at HND HB HBX ⊢
  clear hz
  go_wp2_with (fail)
  refine (end_at HND.out HF.out).mono ?_
  rintro e w1 ⟨rfl,n1,rfl⟩
  go_wp2_with (fail)
  refine (term_at (HND.out.drewN n1) HF.out (Nat.le_refl _)).mono ?_
  rintro e w2 ⟨rfl,n2,rfl⟩
  rw [←HT.out]
  have HND2:=ld ((HND.out.drewN n1).drewN n2)
  have HB2:=ld ((HB.out.trans ((below_drewN' (Below.refl _ _) n1).mono HB.out.size)).trans ((below_drewN' (Below.refl _ _) n2).mono (by have:=HB.out.size;exact this)))
  have HBX2:Hid (BoxAt ((W.drewN n1).drewN n2) z m A n c):=ld HBX.out
  clear HND HB HBX
  generalize (W.drewN n1).drewN n2=W2 at HND2 HB2 HBX2 ⊢
  obtain ⟨d0,d1,d2,d3,d4,d5,d6,d7,d8,d9⟩:=HBX2.out.d
  clear d0 d1 d2 d3 d6 d7 d8 d9
  go_wp2_with (fail)
  go_quiet ((go_at_call 57;exact Calls.quiet_of (end_at (HND2.out.drewN _) HF.out)))
  go_wp2
  go_ret
  exact ⟨by rw [HE.out];rfl,below_drewN' HB2.out _⟩
 ·have hb:¬ (t:Int)<(m.lt:Int):=by omega
  by_cases h2:m.lt=t
  ·have hb2:((m.lt:Int)==(t:Int))=true:=by rw [beq_iff_eq];omega
   have hb3:(m.lt==t)=true:=by rw [beq_iff_eq];omega
   have HE:Hid (Rf.good m p=decide (p.log.length≤m.idx)):=ld (by unfold Rf.good Rf.Nd.fin;rw [←ht];simp [h2])
   have HT:=ld ht
   clear ht h2
   go_enter Tryz.func156,Tryz.ntmps156
   go_upto_region 1 with (fail)
   rw [←hz,show w.alloc (.cells #[.int .i64 m.kind,.int .i64 m.src,.int .i64 m.dst,.int .i64 m.term,.int .i64 m.idx,.int .i64 m.lt,.int .i64 m.commit,.slice A n c,.bool m.rej,.int .i64 m.hint] 59)=w.alloc (boxO m A n c) from rfl]
   generalize w.alloc (boxO m A n c)=W at HND HB HBX ⊢
   clear hz
   go_wp2_with (fail)
   refine (end_at HND.out HF.out).mono ?_
   rintro e w1 ⟨rfl,n1,rfl⟩
   go_wp2_with (fail)
   refine (term_at (HND.out.drewN n1) HF.out (Nat.le_refl _)).mono ?_
   rintro e w2 ⟨rfl,n2,rfl⟩
   rw [←HT.out]
   have HND2:=ld ((HND.out.drewN n1).drewN n2)
   have HB2:=ld ((HB.out.trans ((below_drewN' (Below.refl _ _) n1).mono HB.out.size)).trans ((below_drewN' (Below.refl _ _) n2).mono (by have:=HB.out.size;exact this)))
   have HBX2:Hid (BoxAt ((W.drewN n1).drewN n2) z m A n c):=ld HBX.out
   clear HND HB HBX
   generalize (W.drewN n1).drewN n2=W2 at HND2 HB2 HBX2 ⊢
   obtain ⟨d0,d1,d2,d3,d4,d5,d6,d7,d8,d9⟩:=HBX2.out.d
   clear d0 d1 d2 d3 d6 d7 d8 d9
   go_wp2_with (fail)
   go_quiet ((go_at_call 57;exact Calls.quiet_of (end_at (HND2.out.drewN _) HF.out)))
   go_wp2
   go_ret
   exact ⟨by rw [HE.out];rfl,below_drewN' HB2.out _⟩
  ·have hb2:((m.lt:Int)==(t:Int))=false:=by rw [beq_eq_false_iff_ne];omega
   have hb3:(m.lt==t)=false:=by rw [beq_eq_false_iff_ne];omega
   have HE:Hid (Rf.good m p=false):=ld (by unfold Rf.good Rf.Nd.fin;rw [←ht];rw [show (m.lt==t)=false by simpa using h2];simp;omega)
   have HT:=ld ht
   clear ht h2
   go_enter Tryz.func156,Tryz.ntmps156
   go_upto_region 1 with (fail)
   rw [←hz,show w.alloc (.cells #[.int .i64 m.kind,.int .i64 m.src,.int .i64 m.dst,.int .i64 m.term,.int .i64 m.idx,.int .i64 m.lt,.int .i64 m.commit,.slice A n c,.bool m.rej,.int .i64 m.hint] 59)=w.alloc (boxO m A n c) from rfl]
   generalize w.alloc (boxO m A n c)=W at HND HB HBX ⊢
   clear hz
   go_wp2_with (fail)
   refine (end_at HND.out HF.out).mono ?_
   rintro e w1 ⟨rfl,n1,rfl⟩
   go_wp2_with (fail)
   refine (term_at (HND.out.drewN n1) HF.out (Nat.le_refl _)).mono ?_
   rintro e w2 ⟨rfl,n2,rfl⟩
   rw [←HT.out]
   have HND2:=ld ((HND.out.drewN n1).drewN n2)
   have HB2:=ld ((HB.out.trans ((below_drewN' (Below.refl _ _) n1).mono HB.out.size)).trans ((below_drewN' (Below.refl _ _) n2).mono (by have:=HB.out.size;exact this)))
   have HBX2:Hid (BoxAt ((W.drewN n1).drewN n2) z m A n c):=ld HBX.out
   clear HND HB HBX
   generalize (W.drewN n1).drewN n2=W2 at HND2 HB2 HBX2 ⊢
   obtain ⟨d0,d1,d2,d3,d4,d5,d6,d7,d8,d9⟩:=HBX2.out.d
   clear d0 d1 d2 d3 d6 d7 d8 d9
   go_wp2_with (fail)
   go_quiet ((go_at_call 57;exact Calls.quiet_of (end_at (HND2.out.drewN _) HF.out)))
   go_wp2
   go_ret
   exact ⟨by rw [HE.out];rfl,below_drewN' HB2.out _⟩
end
section
variable {P:Program} {ops:Array Oper} {Q:Exit→Act→World→Prop} {md:Region.Mode} {S:World→Prop} {oi:Oper} {fuel:Nat} {listed l':Array Bool} {a a':Act} {w:World}
theorem tkG130 (i:Nat) (v:Value) (h:wpAnyH P md ops Q S fuel l' a' w) (hh:Tk ops Q md S oi listed l' a a' w i v:=by exact tkm) (hw:Region.wanted oi (yielded ops a.tmps)=true:=by rfl) (hv:∀ w,S w→(execOp a.eval oi).run P w=.ok (.value v) w:=by
  intro w hSw;obtain ⟨hS1,hS2⟩:=hSw;obtain ⟨d0,d1,d2,d3,d4,d5,d6,d7,d8,d9⟩:=hS1.d;go_simp):wpAnyH P md ops Q S (fuel+1) listed a w:=tk i v hv h hh hw
end
section
variable {w w1 w2:World} {F G:Nat→Prop} {b:Nat} {cf:Rf.Cfg} {draw:Int} {l0:List Rf.Ent} {p:Rf.Nd} {ms:List Rf.Msg}
set_option maxRecDepth 100000 in
set_option maxHeartbeats 4000000 in
theorem preVote_any (h:NodeAt w F G b cf draw l0 p ms) (hf:Fits cf p) (hml:ms.length≤400) (m:Rf.Msg) (A:Option Addr) (n c:Nat) :
  Calls Tryz.prog 140 #[.pointer (some ⟨b,0,none⟩),msgV (mrOf m A n c)] w fun e w'=>e=.returned (.tuple #[])∧After w w' F G b cf draw l0 (Rf.preVote m p).1 (ms++(Rf.preVote m p).2):=by
 rw [msgV_eq]
 have HND:=ld (h.below (below_one w (boxO m A n c)))
 have HBX:=ld (BoxAt.made w m A n c)
 have HGR:=ld ((Grew.refl (w:=w) (F:=F) (G:=G)).below (below_one w (boxO m A n c)))
 have HF:=ld hf
 have HML:=ld hml
 obtain ⟨z,hz⟩:∃ z,z=w.heap.size:=⟨_,rfl⟩
 have HFZ:Hid (¬ (F z∨G z)):=ld (BoxAt.fresh h hz)
 rw [←hz] at HBX
 have hbl:b<(w.alloc (boxO m A n c)).heap.size:=HND.out.lt
 clear h hf hml
 by_cases h1:p.term<m.term
 ·have hb:(p.term:Int)<(m.term:Int):=by omega
  go_enter Tryz.func140,Tryz.ntmps140
  go_upto_region 1 with (fail)
  rw [←hz,show w.alloc (.cells #[.int .i64 m.kind,.int .i64 m.src,.int .i64 m.dst,.int .i64 m.term,.int .i64 m.idx,.int .i64 m.lt,.int .i64 m.commit,.slice A n c,.bool m.rej,.int .i64 m.hint] 59)=w.alloc (boxO m A n c) from rfl]
  generalize w.alloc (boxO m A n c)=W at HND HGR HBX ⊢
  clear hz
  have c6:=HND.out.c6
  have HBXW:Hid (BoxAt W.drew z m A n c):=ld HBX.out
  have HNDW:Hid (NodeAt W.drew F G b cf draw l0 p ms):=ld (HND.out.drewN 1)
  have HGRW:Hid (Grew w W.drew F G F G):=ld (HGR.out.below (below_drewN' (Below.refl _ _) 1))
  clear HND HBX HGR
  refine wp_region_held_drew (S:=fun W:World=>BoxAt W z m A n c∧W.cell? ⟨b,6,none⟩=some (.int .i64 (p.term:Int))) (by kernel_rfl) ⟨HBXW.out,c6⟩ (fun hHeld=>?_)
  refine tkG130 0 (.pointer (some ⟨z,3,none⟩)) ?_
  refine tkG130 1 (.int .i64 (m.term:Int)) ?_
  refine tkG130 2 (.pointer (some ⟨b,0,none⟩)) ?_
  refine tkG130 3 (.pointer (some ⟨b,0,none⟩)) ?_
  refine tkG130 4 (.pointer (some ⟨b,6,none⟩)) ?_
  refine tkG130 5 (.pointer (some ⟨b,6,none⟩)) ?_
  refine tkG130 6 (.int .i64 (p.term:Int)) ?_
  refine tkG130 7 (.bool true) ?_
  refine tkG130 8 (.bool true) ?_
  refine tkG130 9 (.pointer (some ⟨b,0,none⟩)) ?_
  refine tkG130 10 (.agg #[.int .i64 m.kind,.int .i64 m.src,.int .i64 m.dst,.int .i64 m.term,.int .i64 m.idx,.int .i64 m.lt,.int .i64 m.commit,.slice A n c,.bool m.rej,.int .i64 m.hint]) ?_
  refine rdy 11 fun K hK=>?_
  go_simp
  refine (good_any HNDW.out HF.out m A n c).mono ?_
  rintro e w5 ⟨rfl,hb5⟩
  have HND5:=ld (HNDW.out.below hb5)
  have HGR5:=ld (HGRW.out.below hb5)
  have HBX5:=ld (HBXW.out.below hb5)
  have c65:=HND5.out.c6
  clear HNDW HGRW HBXW hb5 c6
  go_wp2_with fail
  refine hks hK ?_ fun hHeld=>?_
  ·exact ⟨HBX5.out,c65⟩
  clear hK K
  refine tkG130 12 (.bool (Rf.good m p)) ?_
  refine don ?_
  clear hHeld c65
  by_cases hg:Rf.good m p=true
  ·have HE:Hid (Rf.preVote m p=(p,[Rf.re p m 2 m.term 0 false 0])):=ld (by unfold Rf.preVote;rw [if_pos ⟨h1,hg⟩])
   rw [hg]
   clear hg
   obtain ⟨d0,d1,d2,d3,d4,d5,d6,d7,d8,d9⟩:=HBX5.out.d
   clear d0 d2 d4 d5 d6 d7 d8 d9
   go_wp2_with (fail)
   refine (send_at HND5.out (by have:=HML.out;omega) ⟨2,0,0,m.term,0,0,0,none,0,0,false,0⟩ (Rf.re p m 2 m.term 0 false 0) rfl rfl rfl m.src (by unfold MR.sent;rw [if_neg (by show ¬ ((m.term:Int)=0);omega)];rfl)).mono ?_
   rintro e w9 ⟨rfl,hA⟩
   have HA:=ld hA
   clear hA
   go_wp2
   refine bodyPost_ret (results_none rfl _ _ _) rfl ?_
   rw [HE.out]
   exact ⟨rfl,HA.out.of HGR5.out⟩
  ·have hg':Rf.good m p=false:=by simpa using hg
   have HE:Hid (Rf.preVote m p=(p,[Rf.re p m 2 p.term 0 true 0])):=ld (by unfold Rf.preVote;rw [if_neg (fun h=>hg h.2)])
   rw [hg']
   clear hg hg'
   obtain ⟨d0,d1,d2,d3,d4,d5,d6,d7,d8,d9⟩:=HBX5.out.d
   clear d0 d2 d3 d4 d5 d6 d7 d8 d9
   go_wp2_with (fail)
   refine (send_at HND5.out (by have:=HML.out;omega) ⟨2,0,0,0,0,0,0,none,0,0,true,0⟩ (Rf.re p m 2 p.term 0 true 0) rfl rfl rfl m.src rfl).mono ?_
   rintro e w9 ⟨rfl,hA⟩
   have HA:=ld hA
   clear hA
   go_wp2
   go_end0
   rw [HE.out]
   exact ⟨rfl,HA.out.of HGR5.out⟩
 ·have hb:¬ (p.term:Int)<(m.term:Int):=by omega
  have HE:Hid (Rf.preVote m p=(p,[Rf.re p m 2 p.term 0 true 0])):=ld (by unfold Rf.preVote;rw [if_neg (fun h=>h1 h.1)])
  go_enter Tryz.func140,Tryz.ntmps140
  go_upto_region 1 with (fail)
  rw [←hz,show w.alloc (.cells #[.int .i64 m.kind,.int .i64 m.src,.int .i64 m.dst,.int .i64 m.term,.int .i64 m.idx,.int .i64 m.lt,.int .i64 m.commit,.slice A n c,.bool m.rej,.int .i64 m.hint] 59)=w.alloc (boxO m A n c) from rfl]
  generalize w.alloc (boxO m A n c)=W at HND HGR HBX ⊢
  clear hz
  have c6:=HND.out.c6
  obtain ⟨d0,d1,d2,d3,d4,d5,d6,d7,d8,d9⟩:=HBX.out.d
  clear d0 d2 d4 d5 d6 d7 d8 d9
  go_quiet (fail)
  go_wp2_with (fail)
  have HND5:=ld (HND.out.drewN nq)
  have HGR5:=ld (HGR.out.below (below_drewN' (Below.refl _ _) nq))
  refine (send_at HND5.out (by have:=HML.out;omega) ⟨2,0,0,0,0,0,0,none,0,0,true,0⟩ (Rf.re p m 2 p.term 0 true 0) rfl rfl rfl m.src rfl).mono ?_
  rintro e w9 ⟨rfl,hA⟩
  have HA:=ld hA
  clear hA
  go_wp2
  go_end0
  rw [HE.out]
  exact ⟨rfl,HA.out.of HGR5.out⟩
end
section
variable {w w1 w2:World} {F G:Nat→Prop} {b:Nat} {cf:Rf.Cfg} {draw:Int} {l0:List Rf.Ent} {p:Rf.Nd} {ms:List Rf.Msg}
theorem NodeAt.set7 (h:NodeAt w F G b cf draw l0 p ms) (v:Nat) (x:Int) (hx:x=v):NodeAt (w.setCell ⟨b,7,none⟩ (.int .i64 x)) F G b cf draw l0 { p with vote:=v } ms:=by
 obtain ⟨s,c,hN,h,h2⟩:=h
 exact ⟨{ s with vote:=x },c,hN.scal (chg1 Chg.refl _) (block_setCell (o:=7) hN.blk _),⟨h.id,h.cfg,⟨h.hard.1,hx⟩,h.zero,h.commit,h.role,h.time,h.draw,h.peers,h.log,h.lead,h.gr,h.rf,h.sn⟩,h2⟩
set_option maxRecDepth 100000 in
set_option maxHeartbeats 4000000 in
theorem vote_any (h:NodeAt w F G b cf draw l0 p ms) (hf:Fits cf p) (hml:ms.length≤400) (m:Rf.Msg) (A:Option Addr) (n c:Nat) :
  Calls Tryz.prog 142 #[.pointer (some ⟨b,0,none⟩),msgV (mrOf m A n c)] w fun e w'=>e=.returned (.tuple #[])∧After w w' F G b cf draw l0 (Rf.vote cf draw m p).1 (ms++(Rf.vote cf draw m p).2):=by
 rw [msgV_eq]
 have HND:=ld (h.below (below_one w (boxO m A n c)))
 have HBX:=ld (BoxAt.made w m A n c)
 have HGR:=ld ((Grew.refl (w:=w) (F:=F) (G:=G)).below (below_one w (boxO m A n c)))
 have HF:=ld hf
 have HML:=ld hml
 obtain ⟨z,hz⟩:∃ z,z=w.heap.size:=⟨_,rfl⟩
 have HFZ:Hid (¬ (F z∨G z)):=ld (BoxAt.fresh h hz)
 rw [←hz] at HBX
 have hbl:b<(w.alloc (boxO m A n c)).heap.size:=HND.out.lt
 clear h hf hml
 obtain ⟨fr,hfr⟩:∃ fr:Bool,fr=decide (p.vote=m.src∨(p.vote=0∧p.leader=0)):=⟨_,rfl⟩
 have HFR:=ld hfr
 clear hfr
 go_enter Tryz.func142,Tryz.ntmps142
 go_upto_region 1 with (fail)
 rw [←hz,show w.alloc (.cells #[.int .i64 m.kind,.int .i64 m.src,.int .i64 m.dst,.int .i64 m.term,.int .i64 m.idx,.int .i64 m.lt,.int .i64 m.commit,.slice A n c,.bool m.rej,.int .i64 m.hint] 59)=w.alloc (boxO m A n c) from rfl]
 generalize w.alloc (boxO m A n c)=W at HND HGR HBX ⊢
 clear hz
 have c7:=HND.out.c7
 have c13:=HND.out.c13
 obtain ⟨d0,d1,d2,d3,d4,d5,d6,d7,d8,d9⟩:=HBX.out.d
 clear d0 d2 d3 d4 d5 d6 d7 d8 d9
 go_cut [4] (fun v wx=>v=.bool fr∧∃ nq,wx=W.drewN nq)
 case first =>
  by_cases q1:p.vote=m.src
  ·have a1:((p.vote:Int)==(m.src:Int))=true:=by rw [beq_iff_eq];omega
   have a2:(p.vote==m.src)=true:=by rw [beq_iff_eq];omega
   replace q1:=ld q1
   go_quiet (fail)
   go_wp2_with fail
   go_meet
   exact ⟨congrArg Value.bool (by rw [HFR.out];simp [q1.out]),_,rfl⟩
  ·have a1:((p.vote:Int)==(m.src:Int))=false:=by rw [beq_eq_false_iff_ne];omega
   have a2:(p.vote==m.src)=false:=by rw [beq_eq_false_iff_ne];omega
   replace q1:=ld q1
   by_cases q2:p.vote=0
   ·have a3:((p.vote:Int)==0)=true:=by rw [beq_iff_eq];omega
    by_cases q3:p.leader=0
    ·have a4:((p.leader:Int)==0)=true:=by rw [beq_iff_eq];omega
     replace q2:=ld q2
     replace q3:=ld q3
     go_quiet (fail)
     go_wp2_with fail
     go_meet
     exact ⟨congrArg Value.bool (by rw [HFR.out];simp [q2.out,q3.out]),_,rfl⟩
    ·have a4:((p.leader:Int)==0)=false:=by rw [beq_eq_false_iff_ne];omega
     replace q2:=ld q2
     replace q3:=ld q3
     go_quiet (fail)
     go_wp2_with fail
     go_meet
     exact ⟨congrArg Value.bool (by rw [HFR.out];have h1:=q1.out;have h3:=q3.out;simp [h1,h3]),_,rfl⟩
   ·have a3:((p.vote:Int)==0)=false:=by rw [beq_eq_false_iff_ne];omega
    replace q2:=ld q2
    go_quiet (fail)
    go_wp2_with fail
    go_meet
    exact ⟨congrArg Value.bool (by rw [HFR.out];have h1:=q1.out;have h2:=q2.out;simp [h1,h2]),_,rfl⟩
 case rest =>
  obtain ⟨rfl,nq,rfl⟩:=hcut
  have HND2:=ld (HND.out.drewN nq)
  have HGR2:=ld (HGR.out.below (below_drewN' (Below.refl _ _) nq))
  have HBX2:Hid (BoxAt (W.drewN nq) z m A n c):=ld HBX.out
  clear HND HGR HBX c7 c13 d1
  generalize W.drewN nq=W2 at HND2 HGR2 HBX2 ⊢
  obtain ⟨d0,d1,d2,d3,d4,d5,d6,d7,d8,d9⟩:=HBX2.out.d
  go_wp2_with (fail)
  refine (good_any HND2.out HF.out m A n c).mono ?_
  rintro e w5 ⟨rfl,hb5⟩
  have HND5:=ld (HND2.out.below hb5)
  have HGR5:=ld (HGR2.out.below hb5)
  have HBX5:=ld (HBX2.out.below hb5)
  clear HND2 HGR2 HBX2 hb5 d0 d1 d2 d3 d4 d5 d6 d7 d8 d9
  by_cases hg:Rf.good m p=true
  ·rw [hg]
   have HG:=ld hg
   clear hg
   cases fr with
   | true =>
    have HE:Hid (Rf.vote cf draw m p=(Rf.rest cf draw { p with vote:=m.src },[Rf.re (Rf.rest cf draw { p with vote:=m.src }) m 4 p.term 0 false 0])):=ld (by
     unfold Rf.vote
     rw [if_pos ⟨HG.out,of_decide_eq_true HFR.out.symm⟩];rfl)
    have c7:=HND5.out.c7
    obtain ⟨arr5,hb5⟩:=HND5.out.arr
    have hf5:=frozen_block hb5
    clear hb5
    obtain ⟨d0,d1,d2,d3,d4,d5,d6,d7,d8,d9⟩:=HBX5.out.d
    clear d0 d2 d3 d4 d5 d6 d7 d8 d9
    go_wp2_with (fail)
    have HND6:=ld (HND5.out.set7 m.src m.src rfl)
    have HGR6:=ld (HGR5.out.setCell (o:=7) HND5.out.hb (.int .i64 m.src))
    have HBX6:=ld (HBX5.out.chg (chg1 (b:=b) (o:=7) Chg.refl (.int .i64 m.src)) (fun e=>HFZ.out (.inl (e▸HND5.out.hb))))
    clear HND5 HGR5 HBX5 c7 hf5 d1
    generalize w5.setCell ⟨b,7,none⟩ (.int .i64 m.src)=W6 at HND6 HGR6 HBX6 ⊢
    refine (rest_at HND6.out ⟨HF.out.n,HF.out.time,HF.out.batch,HF.out.id,HF.out.fin,HF.out.term,HF.out.commit⟩).mono ?_
    rintro e w7 ⟨rfl,F7,G7,hn7,hg7⟩
    have HND7:=ld hn7
    have HGR7:=ld (HGR6.out.trans hg7)
    have HBX7:=ld (HBX6.out.chg hg7.chg HFZ.out)
    clear HND6 HGR6 HBX6 hn7 hg7
    obtain ⟨d0,d1,d2,d3,d4,d5,d6,d7,d8,d9⟩:=HBX7.out.d
    clear d0 d2 d3 d4 d5 d6 d7 d8 d9
    go_wp2_with (fail)
    refine (send_at HND7.out (by have:=HML.out;omega) ⟨4,0,0,0,0,0,0,none,0,0,false,0⟩ (Rf.re (Rf.rest cf draw { p with vote:=m.src }) m 4 p.term 0 false 0) rfl rfl rfl m.src rfl).mono ?_
    rintro e w9 ⟨rfl,hA⟩
    have HA:=ld hA
    clear hA
    go_wp2
    refine bodyPost_ret (results_none rfl _ _ _) rfl ?_
    rw [HE.out]
    exact ⟨rfl,HA.out.of HGR7.out⟩
   | false =>
    have HE:Hid (Rf.vote cf draw m p=(p,[Rf.re p m 4 p.term 0 true 0])):=ld (by
     unfold Rf.vote
     rw [if_neg (by
      intro h
      have h2:=HFR.out
      exact absurd (decide_eq_false_iff_not.1 h2.symm) (fun hn=>hn h.2))])
    obtain ⟨d0,d1,d2,d3,d4,d5,d6,d7,d8,d9⟩:=HBX5.out.d
    clear d0 d2 d3 d4 d5 d6 d7 d8 d9
    go_wp2_with (fail)
    refine (send_at HND5.out (by have:=HML.out;omega) ⟨4,0,0,0,0,0,0,none,0,0,true,0⟩ (Rf.re p m 4 p.term 0 true 0) rfl rfl rfl m.src rfl).mono ?_
    rintro e w9 ⟨rfl,hA⟩
    have HA:=ld hA
    clear hA
    go_wp2
    go_end0
    rw [HE.out]
    exact ⟨rfl,HA.out.of HGR5.out⟩
  ·have hg':Rf.good m p=false:=by simpa using hg
   have HG:=ld hg
   rw [hg']
   clear hg hg'
   have HE:Hid (Rf.vote cf draw m p=(p,[Rf.re p m 4 p.term 0 true 0])):=ld (by
    unfold Rf.vote
    rw [if_neg (by
     intro h
     have h2:=HFR.out
     exact HG.out h.1)])
   obtain ⟨d0,d1,d2,d3,d4,d5,d6,d7,d8,d9⟩:=HBX5.out.d
   clear d0 d2 d3 d4 d5 d6 d7 d8 d9
   go_wp2_with (fail)
   refine (send_at HND5.out (by have:=HML.out;omega) ⟨4,0,0,0,0,0,0,none,0,0,true,0⟩ (Rf.re p m 4 p.term 0 true 0) rfl rfl rfl m.src rfl).mono ?_
   rintro e w9 ⟨rfl,hA⟩
   have HA:=ld hA
   clear hA
   go_wp2
   go_end0
   rw [HE.out]
   exact ⟨rfl,HA.out.of HGR5.out⟩
set_option maxRecDepth 100000 in
set_option maxHeartbeats 4000000 in
theorem reply_any (h:NodeAt w F G b cf draw l0 p ms) (hml:ms.length≤500) (m:Rf.Msg) (A:Option Addr) (n c:Nat) (i:Nat) :
  Calls Tryz.prog 157 #[.pointer (some ⟨b,0,none⟩),msgV (mrOf m A n c),.int .i64 i] w fun e w'=>e=.returned (.tuple #[])∧After w w' F G b cf draw l0 p (ms++[Rf.re p m 6 p.term i false 0]):=by
 rw [msgV_eq]
 have HND:=ld (h.below (below_one w (boxO m A n c)))
 have HBX:=ld (BoxAt.made w m A n c)
 have HGR:=ld ((Grew.refl (w:=w) (F:=F) (G:=G)).below (below_one w (boxO m A n c)))
 have HML:=ld hml
 obtain ⟨z,hz⟩:∃ z,z=w.heap.size:=⟨_,rfl⟩
 have HFZ:Hid (¬ (F z∨G z)):=ld (BoxAt.fresh h hz)
 rw [←hz] at HBX
 have hbl:b<(w.alloc (boxO m A n c)).heap.size:=HND.out.lt
 clear h hml
 go_enter Tryz.func157,Tryz.ntmps157
 go_upto_region 1 with (fail)
 rw [←hz,show w.alloc (.cells #[.int .i64 m.kind,.int .i64 m.src,.int .i64 m.dst,.int .i64 m.term,.int .i64 m.idx,.int .i64 m.lt,.int .i64 m.commit,.slice A n c,.bool m.rej,.int .i64 m.hint] 59)=w.alloc (boxO m A n c) from rfl]
 generalize w.alloc (boxO m A n c)=W at HND HGR HBX ⊢
 clear hz
 obtain ⟨d0,d1,d2,d3,d4,d5,d6,d7,d8,d9⟩:=HBX.out.d
 clear d0 d2 d3 d4 d5 d6 d7 d8 d9
 go_wp2_with (fail)
 refine (send_at HND.out (by have:=HML.out;omega) ⟨6,0,0,0,i,0,0,none,0,0,false,0⟩ (Rf.re p m 6 p.term i false 0) rfl rfl rfl m.src rfl).mono ?_
 rintro e w9 ⟨rfl,hA⟩
 have HA:=ld hA
 clear hA
 go_wp2
 go_end0
 exact ⟨rfl,HA.out.of HGR.out⟩
set_option maxRecDepth 100000 in
set_option maxHeartbeats 4000000 in
theorem reject_any (h:NodeAt w F G b cf draw l0 p ms) (hml:ms.length≤500) (m:Rf.Msg) (A:Option Addr) (n c:Nat) (i:Nat) :
  Calls Tryz.prog 158 #[.pointer (some ⟨b,0,none⟩),msgV (mrOf m A n c),.int .i64 i] w fun e w'=>e=.returned (.tuple #[])∧After w w' F G b cf draw l0 p (ms++[Rf.re p m 6 p.term m.idx true i]):=by
 rw [msgV_eq]
 have HND:=ld (h.below (below_one w (boxO m A n c)))
 have HBX:=ld (BoxAt.made w m A n c)
 have HGR:=ld ((Grew.refl (w:=w) (F:=F) (G:=G)).below (below_one w (boxO m A n c)))
 have HML:=ld hml
 obtain ⟨z,hz⟩:∃ z,z=w.heap.size:=⟨_,rfl⟩
 have HFZ:Hid (¬ (F z∨G z)):=ld (BoxAt.fresh h hz)
 rw [←hz] at HBX
 have hbl:b<(w.alloc (boxO m A n c)).heap.size:=HND.out.lt
 clear h hml
 go_enter Tryz.func158,Tryz.ntmps158
 go_upto_region 1 with (fail)
 rw [←hz,show w.alloc (.cells #[.int .i64 m.kind,.int .i64 m.src,.int .i64 m.dst,.int .i64 m.term,.int .i64 m.idx,.int .i64 m.lt,.int .i64 m.commit,.slice A n c,.bool m.rej,.int .i64 m.hint] 59)=w.alloc (boxO m A n c) from rfl]
 generalize w.alloc (boxO m A n c)=W at HND HGR HBX ⊢
 clear hz
 obtain ⟨d0,d1,d2,d3,d4,d5,d6,d7,d8,d9⟩:=HBX.out.d
 clear d0 d2 d3 d5 d6 d7 d8 d9
 go_wp2_with (fail)
 refine (send_at HND.out (by have:=HML.out;omega) ⟨6,0,0,0,m.idx,0,0,none,0,0,true,i⟩ (Rf.re p m 6 p.term m.idx true i) rfl rfl rfl m.src rfl).mono ?_
 rintro e w9 ⟨rfl,hA⟩
 have HA:=ld hA
 clear hA
 go_wp2
 go_end0
 exact ⟨rfl,HA.out.of HGR.out⟩
set_option maxRecDepth 100000 in
set_option maxHeartbeats 4000000 in
theorem old_any (h:NodeAt w F G b cf draw l0 p ms) (hml:ms.length≤500) (m:Rf.Msg) (hk:1≤m.kind∧m.kind≤6) (A:Option Addr) (n c:Nat) :
  Calls Tryz.prog 102 #[.pointer (some ⟨b,0,none⟩),msgV (mrOf m A n c)] w fun e w'=>e=.returned (.tuple #[])∧After w w' F G b cf draw l0 p (ms++Rf.old m p):=by
 rw [msgV_eq]
 have HND:=ld (h.below (below_one w (boxO m A n c)))
 have HBX:=ld (BoxAt.made w m A n c)
 have HGR:=ld ((Grew.refl (w:=w) (F:=F) (G:=G)).below (below_one w (boxO m A n c)))
 have HML:=ld hml
 obtain ⟨z,hz⟩:∃ z,z=w.heap.size:=⟨_,rfl⟩
 have HFZ:Hid (¬ (F z∨G z)):=ld (BoxAt.fresh h hz)
 rw [←hz] at HBX
 have hbl:b<(w.alloc (boxO m A n c)).heap.size:=HND.out.lt
 clear h hml
 have HK:=ld hk
 clear hk
 by_cases q5:m.kind=5
 ·have k5:((m.kind:Int)==5)=true:=by rw [beq_iff_eq];omega
  have HE:Hid (Rf.old m p=[Rf.re p m 6 p.term m.idx true 0]):=ld (by unfold Rf.old;simp [q5])
  clear q5
  go_enter Tryz.func102,Tryz.ntmps102
  go_upto_region 1 with (fail)
  rw [←hz,show w.alloc (.cells #[.int .i64 m.kind,.int .i64 m.src,.int .i64 m.dst,.int .i64 m.term,.int .i64 m.idx,.int .i64 m.lt,.int .i64 m.commit,.slice A n c,.bool m.rej,.int .i64 m.hint] 59)=w.alloc (boxO m A n c) from rfl]
  generalize w.alloc (boxO m A n c)=W at HND HGR HBX ⊢
  clear hz
  obtain ⟨d0,d1,d2,d3,d4,d5,d6,d7,d8,d9⟩:=HBX.out.d
  clear d2 d3 d5 d6 d7 d8 d9
  go_wp2_with (fail)
  refine (send_at HND.out (by have:=HML.out;omega) ⟨6,0,0,0,m.idx,0,0,none,0,0,true,0⟩ (Rf.re p m 6 p.term m.idx true 0) rfl rfl rfl m.src rfl).mono ?_
  rintro e w9 ⟨rfl,hA⟩
  have HA:=ld hA
  clear hA
  go_wp2
  go_end0
  rw [HE.out]
  exact ⟨rfl,HA.out.of HGR.out⟩
 ·by_cases q1:m.kind=1
  ·have k5:((m.kind:Int)==5)=false:=by rw [beq_eq_false_iff_ne];have:=HK.out;omega
   have k7:((m.kind:Int)==7)=false:=by rw [beq_eq_false_iff_ne];have:=HK.out;omega
   have k1:((m.kind:Int)==1)=true:=by rw [beq_iff_eq];omega
   have HE:Hid (Rf.old m p=[Rf.re p m 2 p.term 0 true 0]):=ld (by unfold Rf.old;simp [q1])
   clear q5 q1
   go_enter Tryz.func102,Tryz.ntmps102
   go_upto_region 1 with (fail)
   rw [←hz,show w.alloc (.cells #[.int .i64 m.kind,.int .i64 m.src,.int .i64 m.dst,.int .i64 m.term,.int .i64 m.idx,.int .i64 m.lt,.int .i64 m.commit,.slice A n c,.bool m.rej,.int .i64 m.hint] 59)=w.alloc (boxO m A n c) from rfl]
   generalize w.alloc (boxO m A n c)=W at HND HGR HBX ⊢
   clear hz
   obtain ⟨d0,d1,d2,d3,d4,d5,d6,d7,d8,d9⟩:=HBX.out.d
   clear d2 d3 d5 d6 d7 d8 d9
   go_wp2_with (fail)
   refine (send_at HND.out (by have:=HML.out;omega) ⟨2,0,0,0,0,0,0,none,0,0,true,0⟩ (Rf.re p m 2 p.term 0 true 0) rfl rfl rfl m.src rfl).mono ?_
   rintro e w9 ⟨rfl,hA⟩
   have HA:=ld hA
   clear hA
   go_wp2
   go_end0
   rw [HE.out]
   exact ⟨rfl,HA.out.of HGR.out⟩
  ·by_cases q3:m.kind=3
   ·have k5:((m.kind:Int)==5)=false:=by rw [beq_eq_false_iff_ne];have:=HK.out;omega
    have k7:((m.kind:Int)==7)=false:=by rw [beq_eq_false_iff_ne];have:=HK.out;omega
    have k1:((m.kind:Int)==1)=false:=by rw [beq_eq_false_iff_ne];have:=HK.out;omega
    have k3:((m.kind:Int)==3)=true:=by rw [beq_iff_eq];omega
    have HE:Hid (Rf.old m p=[Rf.re p m 4 p.term 0 true 0]):=ld (by unfold Rf.old;simp [q3])
    clear q5 q1 q3
    go_enter Tryz.func102,Tryz.ntmps102
    go_upto_region 1 with (fail)
    rw [←hz,show w.alloc (.cells #[.int .i64 m.kind,.int .i64 m.src,.int .i64 m.dst,.int .i64 m.term,.int .i64 m.idx,.int .i64 m.lt,.int .i64 m.commit,.slice A n c,.bool m.rej,.int .i64 m.hint] 59)=w.alloc (boxO m A n c) from rfl]
    generalize w.alloc (boxO m A n c)=W at HND HGR HBX ⊢
    clear hz
    obtain ⟨d0,d1,d2,d3,d4,d5,d6,d7,d8,d9⟩:=HBX.out.d
    clear d2 d3 d5 d6 d7 d8 d9
    go_wp2_with (fail)
    refine (send_at HND.out (by have:=HML.out;omega) ⟨4,0,0,0,0,0,0,none,0,0,true,0⟩ (Rf.re p m 4 p.term 0 true 0) rfl rfl rfl m.src rfl).mono ?_
    rintro e w9 ⟨rfl,hA⟩
    have HA:=ld hA
    clear hA
    go_wp2
    go_end0
    rw [HE.out]
    exact ⟨rfl,HA.out.of HGR.out⟩
   ·have k5:((m.kind:Int)==5)=false:=by rw [beq_eq_false_iff_ne];have:=HK.out;omega
    have k7:((m.kind:Int)==7)=false:=by rw [beq_eq_false_iff_ne];have:=HK.out;omega
    have k1:((m.kind:Int)==1)=false:=by rw [beq_eq_false_iff_ne];have:=HK.out;omega
    have k3:((m.kind:Int)==3)=false:=by rw [beq_eq_false_iff_ne];have:=HK.out;omega
    have HE:Hid (Rf.old m p=[]):=ld (by unfold Rf.old;simp [q5,q1,q3])
    clear q5 q1 q3
    go_enter Tryz.func102,Tryz.ntmps102
    go_upto_region 1 with (fail)
    rw [←hz,show w.alloc (.cells #[.int .i64 m.kind,.int .i64 m.src,.int .i64 m.dst,.int .i64 m.term,.int .i64 m.idx,.int .i64 m.lt,.int .i64 m.commit,.slice A n c,.bool m.rej,.int .i64 m.hint] 59)=w.alloc (boxO m A n c) from rfl]
    generalize w.alloc (boxO m A n c)=W at HND HGR HBX ⊢
    clear hz
    obtain ⟨d0,d1,d2,d3,d4,d5,d6,d7,d8,d9⟩:=HBX.out.d
    clear d1 d2 d3 d4 d5 d6 d7 d8 d9
    go_wp2
    go_end0
    rw [HE.out,List.append_nil]
    exact ⟨rfl,F,G,HND.out,HGR.out⟩
end
end Go.Proofs.YtocogcgnahbpkaaGreat
