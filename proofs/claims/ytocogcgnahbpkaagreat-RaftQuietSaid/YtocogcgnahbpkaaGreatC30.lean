import Derived.Test.YtocogcgnahbpkaaGreatC12
import Derived.Test.YtocogcgnahbpkaaGreatC29
namespace Go.Proofs.YtocogcgnahbpkaaGreat
open Go.RowKit
section
variable {w w1 w2:World} {F G:Nat→Prop} {b:Nat} {cf:Rf.Cfg} {draw:Int} {l0:List Rf.Ent} {p:Rf.Nd} {ms:List Rf.Msg}
set_option maxRecDepth 100000 in
set_option maxHeartbeats 4000000 in
theorem wrong_no (h:NodeAt w F G b cf draw l0 p ms) (hf:Fits cf p) (m:Rf.Msg) (A:Option Addr) (n c:Nat) (hk:1≤m.kind∧m.kind≤6)
  (h5:m.kind=5→¬ (m.term=p.term∧p.role=4)∧(p.term≤m.term→m.idx=p.commit→m.lt=p.tm p.commit)) (h6:m.kind=6→m.term=p.term→p.role=4→m.rej=false→m.idx≤p.log.length) :
  Calls Tryz.prog 100 #[.pointer (some ⟨b,0,none⟩),msgV (mrOf m A n c)] w fun e w'=>e=.returned (.bool false)∧Below w.heap.size w w':=by
 rw [msgV_eq]
 have HND:=ld (h.below (below_one w (boxO m A n c)))
 have HBX:=ld (BoxAt.made w m A n c)
 have HBW:=ld (below_one w (boxO m A n c))
 have HF:=ld hf
 obtain ⟨z,hz⟩:∃ z,z=w.heap.size:=⟨_,rfl⟩
 rw [←hz] at HBX
 have HK:=ld hk
 have H5:=ld h5
 have H6:=ld h6
 have HT:Hid (∀ (W:World),NodeAt W F G b cf draw l0 p ms→∀ nn,Calls Tryz.prog 107 #[.pointer (some ⟨b,0,none⟩),.int .i64 (p.commit:Int)] (W.drewN nn) fun e w'=>e=.returned (.int .i64 (p.tm p.commit:Nat))∧∃ n,w'=(W.drewN nn).drewN n):=ld fun W hW nn=>term_at (hW.drewN nn) hf hf.commit
 clear h hf hk h5 h6
 go_enter Tryz.func100,Tryz.ntmps100
 go_upto_region 1 with (fail)
 rw [←hz,show w.alloc (.cells #[.int .i64 m.kind,.int .i64 m.src,.int .i64 m.dst,.int .i64 m.term,.int .i64 m.idx,.int .i64 m.lt,.int .i64 m.commit,.slice A n c,.bool m.rej,.int .i64 m.hint] 59)=w.alloc (boxO m A n c) from rfl]
 generalize w.alloc (boxO m A n c)=W at HND HBW HBX ⊢
 clear hz
 have c6:=HND.out.c6
 have c12:=HND.out.c12
 have c11:=HND.out.c11
 obtain ⟨d0,d1,d2,d3,d4,d5,d6,d7,d8,d9⟩:=HBX.out.d
 clear d1 d2 d6 d7 d9
 obtain ⟨nb,hnb⟩:∃ nb,nb=((m.term:Int)==(p.term:Int)):=⟨_,rfl⟩
 obtain ⟨lb,hlb⟩:∃ lb,lb=((p.role:Int)==4):=⟨_,rfl⟩
 have NB:Hid ((nb=true→m.term=p.term)∧(m.term=p.term→nb=true)):=ld ⟨fun h=>by rw [h] at hnb;have:=beq_iff_eq.1 hnb.symm;omega,fun h=>by rw [hnb,beq_iff_eq,h]⟩
 have LB:Hid ((lb=true→p.role=4)∧(p.role=4→lb=true)):=ld ⟨fun h=>by rw [h] at hlb;have:=beq_iff_eq.1 hlb.symm;omega,fun h=>by rw [hlb,beq_iff_eq,h];rfl⟩
 have hnb':=hnb.symm
 have hnb2:(m.term==p.term)=nb:=by rw [←hnb',Bool.eq_iff_iff,beq_iff_eq,beq_iff_eq];omega
 have hlb':=hlb.symm
 clear hnb hlb
 go_quiet (fail)
 clear hnb' hlb' hnb2
 have HND2:=ld (HND.out.drewN nq)
 have HBX2:Hid (BoxAt (W.drewN nq) z m A n c):=ld HBX.out
 have HBW2:=ld (below_drewN' HBW.out nq)
 clear HND HBX HBW c6 c12 c11 d0 d3 d4 d5 d8
 generalize W.drewN nq=W2 at HND2 HBX2 HBW2 ⊢
 have c6:=HND2.out.c6
 have c11:=HND2.out.c11
 obtain ⟨d0,d1,d2,d3,d4,d5,d6,d7,d8,d9⟩:=HBX2.out.d
 clear d1 d2 d6 d7 d9
 by_cases q5:m.kind=5
 ·have k5:((m.kind:Int)==5)=true:=by rw [beq_iff_eq];omega
  have H55:=ld (H5.out q5)
  clear q5
  cases nb with
  | true =>
   have hlf:lb=false:=by
    cases lb with
    | false=>rfl
    | true=>exact absurd ⟨NB.out.1 rfl,LB.out.1 rfl⟩ H55.out.1
   subst hlf
   go_wp2_with (fail)
   by_cases q3:p.term≤m.term
   ·have a3:decide ((p.term:Int)≤(m.term:Int))=true:=decide_eq_true (by omega)
    have a3':(p.term:Int)≤(m.term:Int):=by omega
    have a3'':decide (p.term≤m.term)=true:=decide_eq_true q3
    by_cases q4:m.idx=p.commit
    ·have a4:((m.idx:Int)==(p.commit:Int))=true:=by rw [beq_iff_eq];omega
     have a4':(m.idx==p.commit)=true:=by rw [beq_iff_eq];omega
     have e5:=H55.out.2 q3 q4
     have a5:((m.lt:Int) != ((p.tm p.commit:Nat):Int))=false:=by rw [bne_eq_false_iff_eq];omega
     have a5':(m.lt != p.tm p.commit)=false:=by rw [bne_eq_false_iff_eq];omega
     clear q3 q4 e5
     go_quiet ((first | (go_at_call 107;exact Calls.quiet_of (HT.out _ HND2.out _)) | (go_at_call 57;exact Calls.quiet_of (end_at (HND2.out.drewN _) HF.out))))
     go_wp2
     go_ret
     exact ⟨rfl,below_drewN' HBW2.out _⟩
    ·have a4:((m.idx:Int)==(p.commit:Int))=false:=by rw [beq_eq_false_iff_ne];omega
     have a4':(m.idx==p.commit)=false:=by rw [beq_eq_false_iff_ne];omega
     clear q3 q4
     go_quiet ((first | (go_at_call 107;exact Calls.quiet_of (HT.out _ HND2.out _)) | (go_at_call 57;exact Calls.quiet_of (end_at (HND2.out.drewN _) HF.out))))
     go_wp2
     go_ret
     exact ⟨rfl,below_drewN' HBW2.out _⟩
   ·have a3:decide ((p.term:Int)≤(m.term:Int))=false:=decide_eq_false (by omega)
    have a3'':decide (p.term≤m.term)=false:=decide_eq_false q3
    clear q3
    go_quiet ((first | (go_at_call 107;exact Calls.quiet_of (HT.out _ HND2.out _)) | (go_at_call 57;exact Calls.quiet_of (end_at (HND2.out.drewN _) HF.out))))
    go_wp2
    go_ret
    exact ⟨rfl,below_drewN' HBW2.out _⟩
  | false =>
   go_wp2_with (fail)
   by_cases q3:p.term≤m.term
   ·have a3:decide ((p.term:Int)≤(m.term:Int))=true:=decide_eq_true (by omega)
    have a3':(p.term:Int)≤(m.term:Int):=by omega
    have a3'':decide (p.term≤m.term)=true:=decide_eq_true q3
    by_cases q4:m.idx=p.commit
    ·have a4:((m.idx:Int)==(p.commit:Int))=true:=by rw [beq_iff_eq];omega
     have a4':(m.idx==p.commit)=true:=by rw [beq_iff_eq];omega
     have e5:=H55.out.2 q3 q4
     have a5:((m.lt:Int) != ((p.tm p.commit:Nat):Int))=false:=by rw [bne_eq_false_iff_eq];omega
     have a5':(m.lt != p.tm p.commit)=false:=by rw [bne_eq_false_iff_eq];omega
     clear q3 q4 e5
     go_quiet ((first | (go_at_call 107;exact Calls.quiet_of (HT.out _ HND2.out _)) | (go_at_call 57;exact Calls.quiet_of (end_at (HND2.out.drewN _) HF.out))))
     go_wp2
     go_ret
     exact ⟨rfl,below_drewN' HBW2.out _⟩
    ·have a4:((m.idx:Int)==(p.commit:Int))=false:=by rw [beq_eq_false_iff_ne];omega
     have a4':(m.idx==p.commit)=false:=by rw [beq_eq_false_iff_ne];omega
     clear q3 q4
     go_quiet ((first | (go_at_call 107;exact Calls.quiet_of (HT.out _ HND2.out _)) | (go_at_call 57;exact Calls.quiet_of (end_at (HND2.out.drewN _) HF.out))))
     go_wp2
     go_ret
     exact ⟨rfl,below_drewN' HBW2.out _⟩
   ·have a3:decide ((p.term:Int)≤(m.term:Int))=false:=decide_eq_false (by omega)
    have a3'':decide (p.term≤m.term)=false:=decide_eq_false q3
    clear q3
    go_quiet ((first | (go_at_call 107;exact Calls.quiet_of (HT.out _ HND2.out _)) | (go_at_call 57;exact Calls.quiet_of (end_at (HND2.out.drewN _) HF.out))))
    go_wp2
    go_ret
    exact ⟨rfl,below_drewN' HBW2.out _⟩
 ·by_cases q6:m.kind=6
  ·have k5:((m.kind:Int)==5)=false:=by rw [beq_eq_false_iff_ne];have:=HK.out;omega
   have k6:((m.kind:Int)==6)=true:=by rw [beq_iff_eq];omega
   have k7:((m.kind:Int)==7)=false:=by rw [beq_eq_false_iff_ne];have:=HK.out;omega
   have H66:=ld (H6.out q6)
   clear q5 q6
   cases nb with
   | true =>
    cases lb with
    | true =>
     rcases Bool.eq_false_or_eq_true m.rej with hr | hr
     ·rw [hr] at d8
      clear hr
      go_wp2_with (fail)
      go_quiet ((first | (go_at_call 107;exact Calls.quiet_of (HT.out _ HND2.out _)) | (go_at_call 57;exact Calls.quiet_of (end_at (HND2.out.drewN _) HF.out))))
      go_wp2
      go_ret
      exact ⟨rfl,below_drewN' HBW2.out _⟩
     ·have e5:=H66.out (NB.out.1 rfl) (LB.out.1 rfl) hr
      have a5:decide ((p.log.length:Int)<(m.idx:Int))=false:=decide_eq_false (by omega)
      have a5':decide (p.log.length<m.idx)=false:=decide_eq_false (by omega)
      rw [hr] at d8
      clear hr e5
      go_wp2_with (fail)
      go_quiet ((first | (go_at_call 107;exact Calls.quiet_of (HT.out _ HND2.out _)) | (go_at_call 57;exact Calls.quiet_of (end_at (HND2.out.drewN _) HF.out))))
      go_wp2
      go_ret
      exact ⟨rfl,below_drewN' HBW2.out _⟩
    | false =>
     go_wp2_with (fail)
     go_quiet ((first | (go_at_call 107;exact Calls.quiet_of (HT.out _ HND2.out _)) | (go_at_call 57;exact Calls.quiet_of (end_at (HND2.out.drewN _) HF.out))))
     go_wp2
     go_ret
     exact ⟨rfl,below_drewN' HBW2.out _⟩
   | false =>
    go_wp2_with (fail)
    go_quiet ((first | (go_at_call 107;exact Calls.quiet_of (HT.out _ HND2.out _)) | (go_at_call 57;exact Calls.quiet_of (end_at (HND2.out.drewN _) HF.out))))
    go_wp2
    go_ret
    exact ⟨rfl,below_drewN' HBW2.out _⟩
  ·have k5:((m.kind:Int)==5)=false:=by rw [beq_eq_false_iff_ne];have:=HK.out;omega
   have k6:((m.kind:Int)==6)=false:=by rw [beq_eq_false_iff_ne];have:=HK.out;omega
   have k7:((m.kind:Int)==7)=false:=by rw [beq_eq_false_iff_ne];have:=HK.out;omega
   clear q5 q6
   go_wp2
   go_ret
   exact ⟨rfl,HBW2.out⟩
end
end Go.Proofs.YtocogcgnahbpkaaGreat
