/- part of the proof -/
import Derived.Deep.CutRange
import Derived.Test.YtpbmbjjfdpkhbaaGreatZw5
import Derived.Test.YtpbmbjjfdpkhbaaGreatZw2
import Derived.Test.YtpbmbjjfdpkhbaaGreatZw1
import Derived.Test.YtpbmbjjfdpkhbaaGreatProg
import Derived.BigQuiet
import Derived.Deep.QuietTactic
import Derived.WalkSmall
import Derived.Test.YtpbmbjjfdpkhbaaGreatZw4
import Derived.Deep.RegionHeld3
namespace Go.Proofs.YtpbmbjjfdpkhbaaGreat
open Go Go.RowKit
set_option linter.all false
set_option maxRecDepth 100000
set_option maxHeartbeats 32000000
open Go.Proofs.Tryz
open And renaming intro->KW
open Below renaming refl->KR
open Bool renaming and_eq_true->Lm,false_ne_true->KP
open Go renaming bodyPost_ret->KV,wpOp_step->KT
open Go.IntWalk renaming i64_in->KU
open Go.Lib renaming hid->KO
open Int renaming natCast_mul->MI,toNat_natCast->Mk
open List renaming flatMap_append->L9,getD_eq_getElem?_getD->Lf,getElem?_eq_getElem->K7,getElem_mem->Lh,range->Lt
open Nat renaming add_mul->ML,le_refl->KS,le_succ->Mm,le_trans->KY,log2->Lx,mul_le_mul->MH,mul_le_mul_left->ME,mul_le_mul_right->LH,one_mul->Mo,pow_le_pow_right->Lj,two_pow_pos->MJ,zero_le->K8
open Option.some renaming inj->KQ
def zU (s:Ss) (i:Nat):Pr:=⟨s.ks.getD i 0,s.vs.getD i 0⟩
def ma (s:Ss) (f n:Nat):List Pr:=(places s.ws f n).map (zU s)
theorem qL (s:Ss) (f n:Nat):(ma s f n).length=(places s.ws f n).length:=by unfold ma;rw[List.length_map]
theorem Ed {ws:List Nat} {f n p:Nat} (h:p∈places ws f n):f<=p/\p< f+n:=by
 unfold places at h
 have h1:=List.mem_range'.1 (List.mem_filter.1 h).1
 obtain⟨i,hi,rfl⟩:=h1
 omega
def dZ (l:List Pr) (w:World) (r:Ending) (w':World):Prop:=∃A c,r= .returned (.slice A l.length c)/\w'.ownsRow w.heap.size 55 2 (.slice A l.length c) l.length (l.flatMap Pr.cells)/\Below w.heap.size w w'
theorem sK:(prog.info? 55).map (fun i=>(i.zero,i.size,i.bytes))=some (some (.agg #[.int .i64 0,.int .i64 0]),2,16):=by kernel_rfl
theorem oI {l:List Pr} {k:Nat} (h:k< l.length):(l.take (k+1)).flatMap Pr.cells=(l.take k).flatMap Pr.cells++[.int .i64 (l[k]'h).key,.int .i64 (l[k]'h).val]:=by
 rw[List.take_succ_eq_append_getElem h,L9]
 simp[Pr.cells]
theorem dz {P:Prop} (h:P:=by
  iterate 23 apply Exists.intro
  refine⟨rfl,?_,?_,?_,?_,?_,?_,?_,?_,?_,?_,?_,?_,?_,?_,?_,?_,?_,?_,?_,?_,?_,?_,?_,?_,?_,?_,?_,?_,?_,?_,?_,?_,?_,?_,?_,?_,?_,?_,?_,?_⟩
  ·first|exact F0.out|exact fun _=>rfl
  ·first|exact F1.out|exact fun _=>rfl
  ·first|exact F2.out|exact fun _=>rfl
  ·first|exact F3.out|exact fun _=>rfl
  ·first|exact F4.out|exact fun _=>rfl
  ·first|exact F5.out|exact fun _=>rfl
  ·first|exact F6.out|exact fun _=>rfl
  ·first|exact F7.out|exact fun _=>rfl
  ·first|exact F8.out|exact fun _=>rfl
  ·first|exact F9.out|exact fun _=>rfl
  ·first|exact F10.out|exact fun _=>rfl
  ·first|exact F11.out|exact fun _=>rfl
  ·first|exact F12.out|exact fun _=>rfl
  ·first|exact F13.out|exact fun _=>rfl
  ·first|exact F14.out|exact fun _=>rfl
  ·first|exact F15.out|exact fun _=>rfl
  ·first|exact F16.out|exact fun _=>rfl
  ·first|exact F17.out|exact fun _=>rfl
  ·first|exact F18.out|exact fun _=>rfl
  ·first|exact F19.out|exact fun _=>rfl|exact(fun h=>absurd (show L 19=true by simpa using h) (by intro h;exact absurd ((C19.out h).2) (by rw[HLi.out];exact KP)))
  ·first|exact F20.out|exact fun _=>rfl|exact(fun h=>absurd (show L 20=true by simpa using h) (by intro h;exact absurd ((C19.out (C20.out h)).2) (by rw[HLi.out];exact KP)))|exact(fun h=>absurd (show L 20=true by simpa using h) (by intro h;exact absurd ((C20.out h)) (by rw[HLi.out];exact KP)))
  ·first|exact O20.out|exact fun _=>rfl|(intro h;refine absurd h ?_;simp;done;done)
  ·first|(intro h;have hh:=C2.out (by simpa using h);simp[hh];done)|(intro _;simp[hl1];done)
  ·first|(intro h;have hh:=C5.out (by simpa using h);simp[hh];done)|(intro _;simp[hl3,hl4];done)
  ·first|(intro h;have hh:=C6.out (by simpa using h);simp[hh];done)|(intro _;simp[hl5];done)
  ·first|(intro h;have hh:=C7.out (by simpa using h);simp[hh];done)|(intro _;simp[hl2,hl6];done)
  ·first|(intro h;have hh:=C8.out (by simpa using h);simp[hh];done)|(intro _;simp[hl7];done)
  ·first|(intro h;have hh:=C10.out (by simpa using h);simp[hh];done)|(intro _;simp[hl9];done)
  ·first|(intro h;have hh:=C13.out (by simpa using h);simp[hh];done)|(intro _;simp[hl11,hl12];done)
  ·first|(intro h;have hh:=C14.out (by simpa using h);simp[hh];done)|(intro _;simp[hl13];done)
  ·first|(intro h;have hh:=C15.out (by simpa using h);simp[hh];done)|(intro _;simp[hl10,hl14];done)
  ·first|(intro h;have hh:=C16.out (by simpa using h);simp[hh];done)|(intro _;simp[hl15];done)
  ·first|(intro h;have hh:=C17.out (by simpa using h);simp[hh];done)|(intro _;simp[hl8,hl16];done)
  ·first|(intro h;have hh:=C18.out (by simpa using h);simp[hh];done)|(intro _;simp[hl17];done)
  ·first|(intro h;have hh:=C19.out (by simpa using h);simp[hh];done)|(intro _;simp[hl0,hl18];done)
  ·first|(intro h;have hh:=C20.out (by simpa using h);simp[hh];done)|(intro _;simp[hl19];done)
  ·first|exact S17.out|exact fun _=>rfl|(intro h;refine absurd h ?_;simp;done;done)|(intro h;refine absurd h ?_;have hh:=hl18;simp[hh];done;done)|(intro h;refine absurd h ?_;have hh:=(C19.out hl19).2;simp[hh];done;done)
  ·first|exact fun _ _=>rfl|exact(fun h h2=>S18.out (by simpa using h) (by simpa using h2))|(intro h h2;refine absurd h2 ?_;simp;done;done)|(intro h h2;refine absurd h2 ?_;have hh:=hl19;simp[hh];done;done)
  ·first|exact fun _ _=>⟨hown2,hbn⟩|exact(fun h h2=>S19.out (by simpa using h) (by simpa using h2))|exact(fun h _=>absurd (show L 19=true by simpa using h) (by intro h;exact absurd ((C19.out h).2) (by rw[HLi.out];exact KP)))|(intro h h2;refine absurd h2 ?_;simp;done;done)
  ·first|exact S20.out|exact fun _=>hst|exact(fun h=>absurd (show L 20=true by simpa using h) (by intro h;exact absurd ((C19.out (C20.out h)).2) (by rw[HLi.out];exact KP)))|exact(fun h=>absurd (show L 20=true by simpa using h) (by intro h;exact absurd ((C20.out h)) (by rw[HLi.out];exact KP)))):P:=h
theorem sD (s:Ss) (f n:Nat) (w:World) (hs:SsAt w s) (ho:SsOk s) (hv:s.vs.length=s.ks.length) (hn:f+n<=s.ks.length) (hw:f+n<=64*s.ws.length):
  Calls prog 103 #[.agg s.row,.int .i64 (f:Nat),.int .i64 ((f+n:Nat):Int)] w (dZ (ma s f n) w):=by
 obtain⟨ti,hi,hz0,hz1,hz2⟩:=info_parts sK
 have HI:=KO (KW hi (KW hz0 (KW hz1 hz2)))
 have HS:=KO hs
 have HO:=KO ho
 have HN:=KO hn
 have HV:=KO hv
 have hpl:=fun W (h:Sl W s.wA (s.ws.map uw))=>nH s.wA s.ws s.wc f n W h (KY ho.wl (by decide)) hw
 obtain⟨Ps,hPs⟩:∃x,places s.ws f n=x:=⟨_,rfl⟩
 rw[hPs]at hpl
 have hmem:∀p∈Ps,p< s.ks.length:=fun p hp=>by rw[<-hPs]at hp;have:=(Ed hp).2;omega
 obtain⟨Lp,hL⟩:∃x,ma s f n=x:=⟨_,rfl⟩
 rw[hL]
 have hLP:Lp=Ps.map (zU s):=by rw[<-hL,<-hPs];rfl
 have hLl:Lp.length=Ps.length:=by rw[hLP,List.length_map]
 have hP3:Ps.length<=300:=by rw[<-hPs,dU];have:=eZ s.ws n f;have:=ho.kl;omega
 obtain⟨M,hM⟩:∃M,Ps.length=M:=⟨_,rfl⟩
 rw[hM]at hpl hLl hP3
 have HM:=KO hM
 have HPL:=KO hpl
 have HMEM:=KO hmem
 have HLP:=KO hLP
 have HLL:=KO hLl
 have HP3:=KO hP3
 obtain⟨T,hT⟩:∃T,f+n=T:=⟨_,rfl⟩
 rw[hT]at HPL ⊢
 clear hs ho hn hv hw hPs hpl hmem hL hLP hLl hP3 hM hi hz0 hz1 hz2 hT
 go_enter func103,ntmps103
 have HF:=KO (KR w.heap.size w)
 have HY1:=KO (HS.out)
 go_upto_region 1 with fail
 obtain⟨U2,h3⟩:∃U,w.alloc (.cells s.row 29)=U:=⟨_,rfl⟩
 have ba4:Below w.heap.size w U2:=by rw[<-h3];exact(KR _ _).alloc (by first|(simp;done)|(simp;omega)) _
 have bn5:Blk U2 (w.heap.size) 29 s.row:=by
  rw[<-h3]
  have hq:=(Blk.new w 29 s.row)
  exact hq
 try rw[h3]
 have HF6:=KO (aa HF.out ba4)
 have HY7:=KO (SsAt.below HY1.out ba4)
 clear HF HY1
 obtain⟨g8,h9⟩:∃g,(w.heap.size)=g:=⟨_,rfl⟩
 rw[h9]at bn5
 try rw[h9]
 have HX10:=KO bn5
 clear bn5 h9
 clear h3 ba4
 have c11:U2.cell? ⟨g8,0,none⟩=some (.int .i64 s.seg):=HX10.out.cell 0
 have c12:U2.cell? ⟨g8,1,none⟩=some (.slice s.wA s.ws.length s.wc):=HX10.out.cell 1
 have c13:U2.cell? ⟨g8,2,none⟩=some (.slice s.kA s.ks.length s.kc):=HX10.out.cell 2
 have c14:U2.cell? ⟨g8,3,none⟩=some (.slice s.vA s.vs.length s.vc):=HX10.out.cell 3
 have c15:U2.cell? ⟨g8,4,none⟩=some (.slice s.cA s.cs.length s.cc):=HX10.out.cell 4
 have c16:U2.cell? ⟨g8,5,none⟩=some (.int .u64 s.laid):=HX10.out.cell 5
 have l17:g8< U2.heap.size:=HX10.out.lt
 go_wp2_with fail
 clear c11 c12 c13 c14 c15 c16 l17
 refine(HPL.out _ HY7.out.words).mono ?_
 rintro e w18 ⟨A8,c8,rfl,ho8,hb19⟩
 have HP8:=KO (aA ho8)
 clear ho8
 have HF20:=KO (aa HF6.out hb19)
 have HX21:=KO (HX10.out.below hb19 HX10.out.lt)
 have HY22:=KO (SsAt.below HY7.out hb19)
 clear HF6 HX10 HY7
 clear hb19
 go_wp2_with fail
 go_loopw [7,9] (fun u i wr=>∃(k:Nat) (A1:Option Addr) (c1:Nat),k<=M/\i= .int .i64 k/\u= .slice A1 k c1/\Hid (wr.ownsRow w18.heap.size 55 2 (.slice A1 k c1) k ((Lp.take k).flatMap Pr.cells))/\Hid (Below w18.heap.size w18 wr)) (fun _ i _=>M-(intOf i).toNat)
 case atStart=>exact⟨0,none,0,K8 _,rfl,rfl,World.ownsRow_nil _ _ _ _,KR _ _⟩
 case round=>
  obtain⟨k,A1,c1,hk,rfl,rfl,HO1,HB1⟩:=hrel
  by_cases hlt:k< M
  ·have hlt2:k< Ps.length:=by rw[HM.out];exact hlt
   have hltL:k< Lp.length:=by rw[HLL.out];exact hlt
   obtain⟨b8,o8,h8,hl8,d8⟩:=HP8.out.oneB HB1.out k hlt2
   subst h8
   obtain⟨p,hp⟩:∃x,Ps[k]'hlt2=x:=⟨_,rfl⟩
   rw[hp]at d8
   have d8n:wr.cell? ⟨b8,o8+k,none⟩=some (.int .i64 (p:Int)):=d8
   have hpk:p< s.ks.length:=HMEM.out p (by rw[<-hp];exact Lh hlt2)
   have hpv:p< s.vs.length:=by rw[HV.out];exact hpk
   have hsw:=HY22.out.below HB1.out
   obtain⟨b2,o2,e2,hbl2,d2⟩:=hsw.keys.one p hpk
   obtain⟨b3,o3,e3,hbl3,d3⟩:=hsw.vals.one p hpv
   obtain⟨y,hy⟩:∃x,s.ks[p]'hpk=x:=⟨_,rfl⟩
   obtain⟨z,hz⟩:∃x,s.vs[p]'hpv=x:=⟨_,rfl⟩
   have hLk:Lp[k]'hltL=⟨y,z⟩:=by
    have hq:Lp[k]'hltL=zU s p:=by
     simp only[HLP.out,List.getElem_map]
     rw[hp]
    rw[hq]
    unfold zU
    rw[Lf,K7 hpk,Lf,K7 hpv,<-hy,<-hz];rfl
   have HTK:=KO (oI hltL)
   rw[hLk]at HTK
   rw[hy]at d2
   rw[hz]at d3
   have f2:wr.cell? ⟨b2,o2+p,none⟩=some (.int .i64 y):=d2
   have f3:wr.cell? ⟨b3,o3+p,none⟩=some (.int .i64 z):=d3
   have hbb:=HX21.out.below HB1.out HX21.out.lt
   have c2:wr.cell? ⟨g8,2,none⟩=some (.slice (some ⟨b2,o2,none⟩) s.ks.length s.kc):=by rw[<-e2];exact hbb.cell 2
   have c3:wr.cell? ⟨g8,3,none⟩=some (.slice (some ⟨b3,o3,none⟩) s.vs.length s.vc):=by rw[<-e3];exact hbb.cell 3
   have j0:(0:Int)<=(k:Int):=by omega
   have j1:(k:Int)< (M:Int):=by omega
   have j2:(0:Int)<=(p:Int):=by omega
   have j3:(p:Int)< (s.ks.length:Int):=by omega
   have j4:(p:Int)< (s.vs.length:Int):=by omega
   have HLT:=KO hlt
   have HW9:=KO (aU k (KY hk (KY HP3.out (by decide))))
   clear hlt2 d8 hp hpk hpv hsw hbl2 hbl3 e2 e3 d2 d3 hy hz hLk hltL hbb hlt
   go_upto_region 6 with fail
   refine aH (by kernel_rfl) (by kernel_rfl) (fun L a W=>∃(t21 t22 t23 t24 t25 t26 t27 t28 t29 t30 t31 t32 t33 t34 t35 t36 t37 t38 t39 t40 t7:Value) (A40:Option Addr) (c40:Nat),a=⟨#[(Value.agg s.row),(.int .i64 ((f:Nat):Int)),(.int .i64 ((T:Nat):Int)),(.pointer (some ⟨g8,0,none⟩)),undef,undef,(.slice none 0 0),t7,(.slice (some ⟨b8,o8,none⟩) M c8),(.int .i64 ((k:Nat):Int)),(.pointer (some ⟨g8,1,none⟩)),(.slice s.wA s.ws.length s.wc),(.int .i64 ((f:Nat):Int)),(.int .i64 ((T:Nat):Int)),(.slice (some ⟨b8,o8,none⟩) M c8),(.int .i64 ((k:Nat):Int)),(.slice (some ⟨b8,o8,none⟩) M c8),(.int .i64 ((M:Nat):Int)),(.bool true),(u19),(u20),t21,t22,t23,t24,t25,t26,t27,t28,t29,t30,t31,t32,t33,t34,t35,t36,t37,t38,t39,t40,undef],[]⟩/\(L 0=true->t21= .slice A1 k c1)/\(L 1=true->t22= .pointer (some ⟨g8,2,none⟩))/\(L 2=true->t23= .slice (some ⟨b2,o2,none⟩) s.ks.length s.kc)/\(L 3=true->t24= .slice (some ⟨b8,o8,none⟩) M c8)/\(L 4=true->t25= .int .i64 (k:Int))/\(L 5=true->t26= .pointer (some ⟨b8,o8+k,none⟩))/\(L 6=true->t27= .int .i64 (p:Int))/\(L 7=true->t28= .pointer (some ⟨b2,o2+p,none⟩))/\(L 8=true->t29= .int .i64 y)/\(L 9=true->t30= .pointer (some ⟨g8,3,none⟩))/\(L 10=true->t31= .slice (some ⟨b3,o3,none⟩) s.vs.length s.vc)/\(L 11=true->t32= .slice (some ⟨b8,o8,none⟩) M c8)/\(L 12=true->t33= .int .i64 (k:Int))/\(L 13=true->t34= .pointer (some ⟨b8,o8+k,none⟩))/\(L 14=true->t35= .int .i64 (p:Int))/\(L 15=true->t36= .pointer (some ⟨b3,o3+p,none⟩))/\(L 16=true->t37= .int .i64 z)/\(L 17=true->t38= .agg #[.int .i64 y,.int .i64 z])/\(L 18=true->t39= .slice (some ⟨wr.heap.size,0,none⟩) 1 1)/\(L 19=true->t40= .slice A40 (k+1) c40)/\(L 20=true->t7= .slice A40 (k+1) c40)/\(L 20=false->t7= .slice A1 k c1)/\(L 2=true->L 1=true)/\(L 5=true->L 3=true/\L 4=true)/\(L 6=true->L 5=true)/\(L 7=true->L 2=true/\L 6=true)/\(L 8=true->L 7=true)/\(L 10=true->L 9=true)/\(L 13=true->L 11=true/\L 12=true)/\(L 14=true->L 13=true)/\(L 15=true->L 10=true/\L 14=true)/\(L 16=true->L 15=true)/\(L 17=true->L 8=true/\L 16=true)/\(L 18=true->L 17=true)/\(L 19=true->L 0=true/\L 18=true)/\(L 20=true->L 19=true)/\(L 18=false->W=wr.drew)/\(L 18=true->L 19=false->W=wr.drew.alloc (.cells #[.int .i64 y,.int .i64 z] 55))/\(L 19=true->L 20=false->(W.ownsRow w18.heap.size 55 2 (.slice A40 (k+1) c40) (k+1) ((Lp.take (k+1)).flatMap Pr.cells)/\Below w18.heap.size w18 W))/\(L 20=true->(W.ownsRow w18.heap.size 55 2 (.slice A40 (k+1) c40) (k+1) ((Lp.take (k+1)).flatMap Pr.cells)/\Below w18.heap.size w18 W))) ?h0 ?hstep ?hend
   case h0=>exact⟨(u21),(u22),(u23),(u24),(u25),(u26),(u27),(u28),(u29),(u30),(u31),(u32),(u33),(u34),(u35),(u36),(u37),(u38),(u39),(u40),(Value.slice A1 k c1),none,0,rfl,fun h=>absurd h KP,fun h=>absurd h KP,fun h=>absurd h KP,fun h=>absurd h KP,fun h=>absurd h KP,fun h=>absurd h KP,fun h=>absurd h KP,fun h=>absurd h KP,fun h=>absurd h KP,fun h=>absurd h KP,fun h=>absurd h KP,fun h=>absurd h KP,fun h=>absurd h KP,fun h=>absurd h KP,fun h=>absurd h KP,fun h=>absurd h KP,fun h=>absurd h KP,fun h=>absurd h KP,fun h=>absurd h KP,fun h=>absurd h KP,fun h=>absurd h KP,fun _=>rfl,fun h=>absurd h KP,fun h=>absurd h KP,fun h=>absurd h KP,fun h=>absurd h KP,fun h=>absurd h KP,fun h=>absurd h KP,fun h=>absurd h KP,fun h=>absurd h KP,fun h=>absurd h KP,fun h=>absurd h KP,fun h=>absurd h KP,fun h=>absurd h KP,fun h=>absurd h KP,fun h=>absurd h KP,fun _=>rfl,fun h _=>absurd h KP,fun h _=>absurd h KP,fun h=>absurd h KP⟩
   case hend=>
    rintro L a W hall ⟨t21,t22,t23,t24,t25,t26,t27,t28,t29,t30,t31,t32,t33,t34,t35,t36,t37,t38,t39,t40,t7,A40,c40,rfl,f0,f1,f2,f3,f4,f5,f6,f7,f8,f9,f10,f11,f12,f13,f14,f15,f16,f17,f18,f19,f20,o20,c2,c5,c6,c7,c8,c10,c13,c14,c15,c16,c17,c18,c19,c20,s17,s18,s19,s20⟩
    obtain rfl:=f20 (hall 20 (by decide))
    have hst:=s20 (hall 20 (by decide))
    clear hall f0 f1 f2 f3 f4 f5 f6 f7 f8 f9 f10 f11 f12 f13 f14 f15 f16 f17 f18 f19 f20 o20 c2 c5 c6 c7 c8 c10 c13 c14 c15 c16 c17 c18 c19 c20 s17 s18 s19 s20
    obtain⟨ho4,hb4⟩:=hst
    have HO4:=KO ho4
    have HB4:=KO hb4
    clear ho4 hb4 c2 c3 f2 f3 d8n j0 j2 j3 j4
    go_wp2_with fail
    go_roundw
    case rel=>exact⟨k+1,A40,c40,HLT.out,by rw[HW9.out],rfl,HO4.out,HB4.out⟩
    case measure=>exact bT _ k HLT.out HW9.out
   case hstep=>
    rintro L a W i o ho hLi hdep ⟨t21,t22,t23,t24,t25,t26,t27,t28,t29,t30,t31,t32,t33,t34,t35,t36,t37,t38,t39,t40,t7,A40,c40,rfl,f0,f1,f2,f3,f4,f5,f6,f7,f8,f9,f10,f11,f12,f13,f14,f15,f16,f17,f18,f19,f20,o20,c2,c5,c6,c7,c8,c10,c13,c14,c15,c16,c17,c18,c19,c20,s17,s18,s19,s20⟩
    have F0:=KO f0
    have F1:=KO f1
    have F2:=KO f2
    have F3:=KO f3
    have F4:=KO f4
    have F5:=KO f5
    have F6:=KO f6
    have F7:=KO f7
    have F8:=KO f8
    have F9:=KO f9
    have F10:=KO f10
    have F11:=KO f11
    have F12:=KO f12
    have F13:=KO f13
    have F14:=KO f14
    have F15:=KO f15
    have F16:=KO f16
    have F17:=KO f17
    have F18:=KO f18
    have F19:=KO f19
    have F20:=KO f20
    have O20:=KO o20
    have C2:=KO c2
    have C5:=KO c5
    have C6:=KO c6
    have C7:=KO c7
    have C8:=KO c8
    have C10:=KO c10
    have C13:=KO c13
    have C14:=KO c14
    have C15:=KO c15
    have C16:=KO c16
    have C17:=KO c17
    have C18:=KO c18
    have C19:=KO c19
    have C20:=KO c20
    have S17:=KO s17
    have S18:=KO s18
    have S19:=KO s19
    have S20:=KO s20
    clear f0 f1 f2 f3 f4 f5 f6 f7 f8 f9 f10 f11 f12 f13 f14 f15 f16 f17 f18 f19 f20 o20 c2 c5 c6 c7 c8 c10 c13 c14 c15 c16 c17 c18 c19 c20 s17 s18 s19 s20
    have HLi:=KO hLi
    clear hLi
    match i,ho with
    |0,ho=>
     obtain rfl:=KQ ho
     clear hdep
     have hz20:L 20=false:=by
      cases h:L 20 with
      |false=>rfl
      |true=>exact absurd ((C19.out (C20.out h)).1) (by rw[HLi.out];exact KP)
     obtain rfl:=O20.out hz20
     refine KT rfl (fun K1 hK1=>?_)
     have hK:=KO hK1
     clear hK1
     go_wp2_with fail
     refine hK.out _ _ ?_;exact dz
    |1,ho=>
     obtain rfl:=KQ ho
     clear hdep
     refine KT rfl (fun K1 hK1=>?_)
     have hK:=KO hK1
     clear hK1
     go_wp2_with fail
     refine hK.out _ _ ?_;exact dz
    |2,ho=>
     obtain rfl:=KQ ho
     have hl1:=hdep ⟨1,.data⟩ (by simp) rfl
     obtain rfl:=F1.out hl1
     clear hdep
     have hm0:L 18=false:=by
      cases h:L 18 with
      |false=>rfl
      |true=>exact absurd ((C7.out (C8.out (C17.out (C18.out h)).1)).1) (by rw[HLi.out];exact KP)
     have hW:=S17.out hm0
     subst hW
     refine KT rfl (fun K1 hK1=>?_)
     have hK:=KO hK1
     clear hK1
     go_wp2_with fail
     refine hK.out _ _ ?_;exact dz
    |3,ho=>
     obtain rfl:=KQ ho
     clear hdep
     refine KT rfl (fun K1 hK1=>?_)
     have hK:=KO hK1
     clear hK1
     go_wp2_with fail
     refine hK.out _ _ ?_;exact dz
    |4,ho=>
     obtain rfl:=KQ ho
     clear hdep
     refine KT rfl (fun K1 hK1=>?_)
     have hK:=KO hK1
     clear hK1
     go_wp2_with fail
     refine hK.out _ _ ?_;exact dz
    |5,ho=>
     obtain rfl:=KQ ho
     have hl3:=hdep ⟨3,.data⟩ (by simp) rfl
     obtain rfl:=F3.out hl3
     have hl4:=hdep ⟨4,.data⟩ (by simp) rfl
     obtain rfl:=F4.out hl4
     clear hdep
     refine KT rfl (fun K1 hK1=>?_)
     have hK:=KO hK1
     clear hK1
     go_wp2_with fail
     refine hK.out _ _ ?_;exact dz
    |6,ho=>
     obtain rfl:=KQ ho
     have hl5:=hdep ⟨5,.data⟩ (by simp) rfl
     obtain rfl:=F5.out hl5
     clear hdep
     have hm0:L 18=false:=by
      cases h:L 18 with
      |false=>rfl
      |true=>exact absurd ((C7.out (C8.out (C17.out (C18.out h)).1)).2) (by rw[HLi.out];exact KP)
     have hW:=S17.out hm0
     subst hW
     refine KT rfl (fun K1 hK1=>?_)
     have hK:=KO hK1
     clear hK1
     go_wp2_with fail
     refine hK.out _ _ ?_;exact dz
    |7,ho=>
     obtain rfl:=KQ ho
     have hl2:=hdep ⟨2,.data⟩ (by simp) rfl
     obtain rfl:=F2.out hl2
     have hl6:=hdep ⟨6,.data⟩ (by simp) rfl
     obtain rfl:=F6.out hl6
     clear hdep
     refine KT rfl (fun K1 hK1=>?_)
     have hK:=KO hK1
     clear hK1
     go_wp2_with fail
     refine hK.out _ _ ?_;exact dz
    |8,ho=>
     obtain rfl:=KQ ho
     have hl7:=hdep ⟨7,.data⟩ (by simp) rfl
     obtain rfl:=F7.out hl7
     clear hdep
     have hm0:L 18=false:=by
      cases h:L 18 with
      |false=>rfl
      |true=>exact absurd ((C17.out (C18.out h)).1) (by rw[HLi.out];exact KP)
     have hW:=S17.out hm0
     subst hW
     refine KT rfl (fun K1 hK1=>?_)
     have hK:=KO hK1
     clear hK1
     go_wp2_with fail
     refine hK.out _ _ ?_;exact dz
    |9,ho=>
     obtain rfl:=KQ ho
     clear hdep
     refine KT rfl (fun K1 hK1=>?_)
     have hK:=KO hK1
     clear hK1
     go_wp2_with fail
     refine hK.out _ _ ?_;exact dz
    |10,ho=>
     obtain rfl:=KQ ho
     have hl9:=hdep ⟨9,.data⟩ (by simp) rfl
     obtain rfl:=F9.out hl9
     clear hdep
     have hm0:L 18=false:=by
      cases h:L 18 with
      |false=>rfl
      |true=>exact absurd ((C15.out (C16.out (C17.out (C18.out h)).2)).1) (by rw[HLi.out];exact KP)
     have hW:=S17.out hm0
     subst hW
     refine KT rfl (fun K1 hK1=>?_)
     have hK:=KO hK1
     clear hK1
     go_wp2_with fail
     refine hK.out _ _ ?_;exact dz
    |11,ho=>
     obtain rfl:=KQ ho
     clear hdep
     refine KT rfl (fun K1 hK1=>?_)
     have hK:=KO hK1
     clear hK1
     go_wp2_with fail
     refine hK.out _ _ ?_;exact dz
    |12,ho=>
     obtain rfl:=KQ ho
     clear hdep
     refine KT rfl (fun K1 hK1=>?_)
     have hK:=KO hK1
     clear hK1
     go_wp2_with fail
     refine hK.out _ _ ?_;exact dz
    |13,ho=>
     obtain rfl:=KQ ho
     have hl11:=hdep ⟨11,.data⟩ (by simp) rfl
     obtain rfl:=F11.out hl11
     have hl12:=hdep ⟨12,.data⟩ (by simp) rfl
     obtain rfl:=F12.out hl12
     clear hdep
     refine KT rfl (fun K1 hK1=>?_)
     have hK:=KO hK1
     clear hK1
     go_wp2_with fail
     refine hK.out _ _ ?_;exact dz
    |14,ho=>
     obtain rfl:=KQ ho
     have hl13:=hdep ⟨13,.data⟩ (by simp) rfl
     obtain rfl:=F13.out hl13
     clear hdep
     have hm0:L 18=false:=by
      cases h:L 18 with
      |false=>rfl
      |true=>exact absurd ((C15.out (C16.out (C17.out (C18.out h)).2)).2) (by rw[HLi.out];exact KP)
     have hW:=S17.out hm0
     subst hW
     refine KT rfl (fun K1 hK1=>?_)
     have hK:=KO hK1
     clear hK1
     go_wp2_with fail
     refine hK.out _ _ ?_;exact dz
    |15,ho=>
     obtain rfl:=KQ ho
     have hl10:=hdep ⟨10,.data⟩ (by simp) rfl
     obtain rfl:=F10.out hl10
     have hl14:=hdep ⟨14,.data⟩ (by simp) rfl
     obtain rfl:=F14.out hl14
     clear hdep
     refine KT rfl (fun K1 hK1=>?_)
     have hK:=KO hK1
     clear hK1
     go_wp2_with fail
     refine hK.out _ _ ?_;exact dz
    |16,ho=>
     obtain rfl:=KQ ho
     have hl15:=hdep ⟨15,.data⟩ (by simp) rfl
     obtain rfl:=F15.out hl15
     clear hdep
     have hm0:L 18=false:=by
      cases h:L 18 with
      |false=>rfl
      |true=>exact absurd ((C17.out (C18.out h)).2) (by rw[HLi.out];exact KP)
     have hW:=S17.out hm0
     subst hW
     refine KT rfl (fun K1 hK1=>?_)
     have hK:=KO hK1
     clear hK1
     go_wp2_with fail
     refine hK.out _ _ ?_;exact dz
    |17,ho=>
     obtain rfl:=KQ ho
     have hl8:=hdep ⟨8,.data⟩ (by simp) rfl
     obtain rfl:=F8.out hl8
     have hl16:=hdep ⟨16,.data⟩ (by simp) rfl
     obtain rfl:=F16.out hl16
     clear hdep
     refine KT rfl (fun K1 hK1=>?_)
     have hK:=KO hK1
     clear hK1
     go_wp2_with fail
     refine hK.out _ _ ?_;exact dz
    |18,ho=>
     obtain rfl:=KQ ho
     have hl17:=hdep ⟨17,.data⟩ (by simp) rfl
     obtain rfl:=F17.out hl17
     clear hdep
     have hst:=S17.out HLi.out
     refine KT rfl (fun K1 hK1=>?_)
     have hK:=KO hK1
     clear hK1
     subst hst
     go_wp2_with fail
     refine hK.out _ _ ?_;exact dz
    |19,ho=>
     obtain rfl:=KQ ho
     have hl0:=hdep ⟨0,.data⟩ (by simp) rfl
     obtain rfl:=F0.out hl0
     have hl18:=hdep ⟨18,.data⟩ (by simp) rfl
     obtain rfl:=F18.out hl18
     clear hdep
     have hst:=S18.out hl18 HLi.out
     refine KT rfl (fun K1 hK1=>?_)
     have hK:=KO hK1
     clear hK1
     subst hst
     have hrow:(wr.drew.alloc (.cells #[.int .i64 y,.int .i64 z] 55)).ownsRow w18.heap.size 55 2 (.slice A1 k c1) k ((Lp.take k).flatMap Pr.cells):=(HO1.out.drew).alloc _
     refine dS _ rfl (.tmp 21) (.tmp 39) 47 rfl w18.heap.size 55 ti _ 2 16 underlying47 HI.out.1 HI.out.2.1 HI.out.2.2.1 HI.out.2.2.2 rfl (by omega) (.slice A1 k c1) k _ rfl hrow (some ⟨wr.heap.size,0,none⟩) 1 1 [.int .i64 y,.int .i64 z] rfl ((Blk.new wr.drew _ _).sl 0 _ (by intro j u hu;simpa using hu)) (by rfl) (by simp[Value.oneCell']) (by unfold maxLen;have:=HP3.out;omega) (by have:=HP3.out;omega) (KY HB1.out.size (by rw[World.size_alloc];exact Mm _)) ?_
     intro v2 W1 hown2 hg2
     have hbn:Below w18.heap.size w18 W1:=(HB1.out.drew.alloc HB1.out.size _).grown hg2 (KY HB1.out.size (by rw[World.size_alloc];exact Mm _)) (fun q hq=>(hrow.lt q hq).1)
     rw[<-HTK.out]at hown2
     obtain⟨A2,c2,rfl,-,-⟩:=ak hown2
     refine hK.out _ _ ?_;exact dz
    |20,ho=>
     obtain rfl:=KQ ho
     have hl19:=hdep ⟨19,.data⟩ (by simp) rfl
     obtain rfl:=F19.out hl19
     clear hdep
     have hst:=S19.out hl19 HLi.out
     refine KT rfl (fun K1 hK1=>?_)
     have hK:=KO hK1
     clear hK1
     go_wp2_with fail
     refine hK.out _ _ ?_;exact dz
  ·have j1:¬(k:Int)< (M:Int):=by omega
   obtain rfl:k=M:=by omega
   have ho:=HO1.out
   rw[List.take_of_length_le (by rw[HLL.out];exact KS _)]at ho
   have HO2:=KO ho
   clear ho hlt
   go_wp2_with fail
   go_ret
   refine⟨A1,c1,by rw[HLL.out];rfl,?_,aa HF20.out HB1.out⟩
   rw[HLL.out]
   exact av HO2.out HF20.out.size
instance:Inhabited Pr:=⟨⟨0,0⟩⟩
deriving instance DecidableEq for Pr
def keys (l:List Pr):List Int:=l.map Pr.key
def Ris (l:List Pr):Prop:=rises (keys l)=true
instance (l:List Pr):Decidable (Ris l):=by unfold Ris;infer_instance
def bel (l:List Pr) (k:Int):Nat:=l.countP (fun p=>decide (p.key< k))
def Kt (l:List Pr) (k:Int):Nat:=l.countP (fun p=>decide (p.key<=k))
def has (l:List Pr) (k:Int):Bool:=decide (bel l k< Kt l k)
theorem vX (l:List Pr):Ris l↔l.Pairwise (fun a b=>a.key< b.key):=by
 unfold Ris rises keys
 rw[decide_eq_true_iff,List.pairwise_map]
theorem Ris.get {l:List Pr} (h:Ris l) {i j:Nat} (hij:i< j) (hj:j< l.length):(l[i]'(by omega)).key< (l[j]'hj).key:=by
 rw[vX]at h
 exact(List.pairwise_iff_getElem.1 h) i j (by omega) hj hij
theorem kP (l:List Pr) (k:Int):bel l k<=l.length:=List.countP_le_length
theorem JR (l:List Pr) (k:Int):Kt l k<=l.length:=List.countP_le_length
theorem ll (p:Pr->Bool):∀(l:List Pr),(∀i j (hi:i< j) (hj:j< l.length),p (l[j]'hj)=true->p (l[i]'(by omega))=true)->∀i (hi:i< l.length),p (l[i]'hi)=true↔i< l.countP p
 |[],_,i,hi=>by simp at hi
 |a::l,h,i,hi=>by
  have hl:∀i j (hi:i< j) (hj:j< l.length),p (l[j]'hj)=true->p (l[i]'(by omega))=true:=fun i j hij hj=>by
   have:=h (i+1) (j+1) (by omega) (by simpa using hj)
   simpa using this
  by_cases ha:p a=true
  ·rw[List.countP_cons_of_pos ha]
   cases i with
   |zero=>simp[ha]
   |succ i=>simpa using ll p l hl i (by simpa using hi)
  ·have h0:∀x∈a::l,¬p x=true:=by
    intro x hx hp
    obtain⟨j,hj,rfl⟩:=List.getElem_of_mem hx
    cases j with
    |zero=>exact ha (by simpa using hp)
    |succ j=>exact ha (by simpa using h 0 (j+1) (by omega) hj hp)
   rw[List.countP_eq_zero.2 h0]
   constructor
   ·intro hp;exact absurd hp (h0 _ (Lh hi))
   ·omega
theorem wD {l:List Pr} (h:Ris l) (k:Int) (i:Nat) (hi:i< l.length):(l[i]'hi).key< k↔i< bel l k:=by
 have:=ll (fun p=>decide (p.key< k)) l (fun i j hij hj hp=>by have:=h.get hij hj;simp at hp ⊢;omega) i hi
 simpa[bel]using this
theorem Ce {l:List Pr} (h:Ris l) (k:Int) (i:Nat) (hi:i< l.length):(l[i]'hi).key<=k↔i< Kt l k:=by
 have:=ll (fun p=>decide (p.key<=k)) l (fun i j hij hj hp=>by have:=h.get hij hj;simp at hp ⊢;omega) i hi
 simpa[Kt]using this
theorem BH {l:List Pr} (h:Ris l) (k:Int):has l k=true↔∃hb:bel l k< l.length,(l[bel l k]'hb).key=k:=by
 unfold has
 rw[decide_eq_true_iff]
 constructor
 ·intro hlt
  have hu:=JR l k
  refine⟨by omega,?_⟩
  have a:=(Ce h k (bel l k) (by omega)).2 hlt
  have b:=mt (wD h k (bel l k) (by omega)).1 (by omega)
  omega
 ·rintro⟨hb,he⟩
  exact(Ce h k (bel l k) hb).1 (by omega)
structure Answ where
 pair:Pr
 n:Int
 pairs:List Pr
def kF (most:Int) (l:List Pr):Int:=if most< 1∨16384< most then 2 else if most< l.length∨¬Ris l then 8 else 0
theorem nZ (A:Option Addr) (l:List Pr) (c:Nat) (w:World) (hA:Sl w A (l.flatMap Pr.cells)) (hl:l.length<=4611686018427387903):
  Calls prog 82 #[.slice A l.length c] w fun r w'=>r= .returned (.bool (decide (Ris l)))/\Below w.heap.size w w':=by
 go_enter func82,ntmps82
 go_wp2
 go_loopw [3] (fun i wr=>∃k:Nat,1<=k/\i= .int .i64 k/\Below w.heap.size w wr/\Hid (RiseTo (l.map Pr.key) k)) (fun i _=>l.length-(intOf i).toNat)
 case atStart=>exact⟨1,KS _,rfl,KR _ _,RiseTo.start _⟩
 case round=>
  obtain⟨k,hk,rfl,hb,hn⟩:=hrel
  by_cases hlt:k< l.length
  ·obtain⟨b,off,rfl,hbl,c1,c2⟩:=(hA.below hb).pr k hlt
   obtain⟨b',off',e,_,d1,d2⟩:=(hA.below hb).pr (k-1) (by omega)
   simp only[Option.some.injEq,Addr.mk.injEq]at e
   obtain⟨rfl,rfl,_⟩:=e
   have i0:(0:Int)<=(k:Int):=by omega
   have i1:(k:Int)< (l.length:Int):=by omega
   have i2:(0:Int)<=(k:Int)-1:=by omega
   have i3:(k:Int)-1< (l.length:Int):=by omega
   clear c2 d2 hA
   go_wp2
   go_quiet (fail)
   go_wp2
   ·have hx:(l[k]'hlt).key<=(l[k-1]'(by omega)).key:=by assumption
    go_ret
    exact⟨aC (decide_eq_false (fun h=>absurd (h.symm.trans (RiseTo.no (ks:=keys l) hk (by simpa[keys]using hlt) (by simpa[keys]using hx))) (by simp))).symm,ay hb _⟩
   ·have hx:(l[k-1]'(by omega)).key< (l[k]'hlt).key:=by assumption
    go_roundw
    case rel=>exact⟨k+1,by omega,by go_num,ay hb _,hn.out.step hk (by simpa using hlt) (by simpa using hx)⟩
    case measure=>simp[intOf];omega
  ·go_wp2
   go_ret
   exact⟨aC (decide_eq_true (show Ris l from hn.out.all (by simp;omega))).symm,hb⟩
theorem wo (A:Option Addr) (l:List Pr) (c:Nat) (w:World) (hA:Sl w A (l.flatMap Pr.cells)) (hl:l.length<=4611686018427387903):
  Calls prog 132 #[.slice A l.length c] w fun r w'=>r= .returned (.bool (decide (Ris l)))/\Below w.heap.size w w':=by
 go_enter func132,ntmps132
 go_wp2
 go_loopw [3] (fun i wr=>∃k:Nat,1<=k/\i= .int .i64 k/\Below w.heap.size w wr/\Hid (RiseTo (l.map Pr.key) k)) (fun i _=>l.length-(intOf i).toNat)
 case atStart=>exact⟨1,KS _,rfl,KR _ _,RiseTo.start _⟩
 case round=>
  obtain⟨k,hk,rfl,hb,hn⟩:=hrel
  by_cases hlt:k< l.length
  ·obtain⟨b,off,rfl,hbl,c1,c2⟩:=(hA.below hb).pr k hlt
   obtain⟨b',off',e,_,d1,d2⟩:=(hA.below hb).pr (k-1) (by omega)
   simp only[Option.some.injEq,Addr.mk.injEq]at e
   obtain⟨rfl,rfl,_⟩:=e
   have i0:(0:Int)<=(k:Int):=by omega
   have i1:(k:Int)< (l.length:Int):=by omega
   have i2:(0:Int)<=(k:Int)-1:=by omega
   have i3:(k:Int)-1< (l.length:Int):=by omega
   clear c2 d2 hA
   go_wp2
   go_quiet (fail)
   go_wp2
   ·have hx:(l[k]'hlt).key<=(l[k-1]'(by omega)).key:=by assumption
    go_ret
    exact⟨aC (decide_eq_false (fun h=>absurd (h.symm.trans (RiseTo.no (ks:=keys l) hk (by simpa[keys]using hlt) (by simpa[keys]using hx))) (by simp))).symm,ay hb _⟩
   ·have hx:(l[k-1]'(by omega)).key< (l[k]'hlt).key:=by assumption
    go_roundw
    case rel=>exact⟨k+1,by omega,by go_num,ay hb _,hn.out.step hk (by simpa using hlt) (by simpa using hx)⟩
    case measure=>simp[intOf];omega
  ·go_wp2
   go_ret
   exact⟨aC (decide_eq_true (show Ris l from hn.out.all (by simp;omega))).symm,hb⟩
theorem xD (most:Int) (A:Option Addr) (l:List Pr) (c:Nat) (w:World) (hA:Sl w A (l.flatMap Pr.cells)) (hl:l.length<=4611686018427387903):
  Calls prog 68 #[.int .i64 most,.slice A l.length c] w fun r w'=>r= .returned (.int .i64 (kF most l))/\Below w.heap.size w w':=by
 have hb0:=KR w.heap.size w
 go_enter func68,ntmps68
 by_cases h1:most< 1
 ·go_wp2
  go_ret
  exact⟨aJ (by unfold kF;rw[if_pos (.inl h1)]),hb0⟩
 ·by_cases h2:16384< most
  ·go_wp2
   go_ret
   exact⟨aJ (by unfold kF;rw[if_pos (.inr h2)]),hb0⟩
  ·by_cases h3:most< (l.length:Int)
   ·go_wp2
    go_ret
    exact⟨aJ (by unfold kF;rw[if_neg (by omega),if_pos (.inl h3)]),hb0⟩
   ·by_cases h4:Ris l
    ·have e4:decide (Ris l)=true:=decide_eq_true h4
     go_wp2_with (go_at_call 82;refine(nZ A l c _ hA hl).mono ?_;rw[e4];rintro e w1 ⟨rfl,hb1⟩)
     go_ret
     exact⟨aJ (by unfold kF;rw[if_neg (by omega),if_neg (by simp[h4];omega)]),hb1⟩
    ·have e4:decide (Ris l)=false:=decide_eq_false h4
     go_wp2_with (go_at_call 82;refine(nZ A l c _ hA hl).mono ?_;rw[e4];rintro e w1 ⟨rfl,hb1⟩)
     go_ret
     exact⟨aJ (by unfold kF;rw[if_neg (by omega),if_pos (.inr h4)]),hb1⟩
def wF (p:Pr) (k:Int):Int:=if p.key< k then-1 else if k< p.key then 1 else 0
theorem ze (p:Pr) (k:Int) (w:World):
  Calls prog 99 #[.agg #[.int .i64 p.key,.int .i64 p.val],.int .i64 k] w fun r w'=>r= .returned (.int .i64 (wF p k))/\Below w.heap.size w w':=by
 have hb0:Below w.heap.size w (w.alloc (.cells #[.int .i64 p.key,.int .i64 p.val] 55)):=(KR _ _).alloc (KS _) _
 have hx0:Blk (w.alloc (.cells #[.int .i64 p.key,.int .i64 p.val] 55)) w.heap.size 55 #[.int .i64 p.key,.int .i64 p.val]:=Blk.new _ _ _
 have c0:(w.alloc (.cells #[.int .i64 p.key,.int .i64 p.val] 55)).cell? ⟨w.heap.size,0,none⟩=some (.int .i64 p.key):=hx0.cell 0
 go_enter func99,ntmps99
 by_cases h1:p.key< k
 ·go_wp2
  go_ret
  exact⟨aJ (by unfold wF;rw[if_pos h1]),hb0⟩
 ·by_cases h2:k< p.key
  ·go_wp2
   go_ret
   exact⟨aJ (by unfold wF;rw[if_neg (by omega),if_pos h2]),hb0⟩
  ·go_wp2
   go_ret
   exact⟨aJ (by unfold wF;rw[if_neg (by omega),if_neg (by omega)]),hb0⟩
theorem FU {p:Pr} {k:Int}:wF p k< 0↔p.key< k:=by unfold wF;split <;> (try split) <;> omega
theorem Ez {p:Pr} {k:Int}:wF p k=0↔p.key=k:=by unfold wF;split <;> (try split) <;> omega
theorem zS (A:Option Addr) (l:List Pr) (c:Nat) (key:Int) (w:World) (hA:Sl w A (l.flatMap Pr.cells)) (hl:l.length<=4611686018427387903) (hr:Hid (Ris l)):
  Calls prog 98 #[.slice A l.length c,.int .i64 key,.func (.func 99) #[] #[]] w fun r w'=>
   r= .returned (.tuple #[.int .i64 (bel l key),.bool (has l key)])/\Below w.heap.size w w':=by
 go_enter func98,ntmps98
 go_wp2
 go_loopw [9,10] (fun i j wr=>∃lo hi:Nat,i= .int .i64 lo/\j= .int .i64 hi/\lo<=hi/\hi<=l.length/\Below w.heap.size w wr/\lo<=bel l key/\bel l key<=hi) (fun i j _=>(intOf j).toNat-(intOf i).toNat)
 case atStart=>exact⟨0,l.length,rfl,rfl,K8 _,KS _,KR _ _,K8 _,kP l key⟩
 case round=>
  obtain⟨lo,hi,rfl,rfl,hlh,hin,hb,h1,h2⟩:=hrel
  by_cases hlt:lo< hi
  ·obtain⟨b,off,rfl,hbl,c1,c2⟩:=hA.prB hb ((lo+hi)/2) (by omega)
   have hm:(lo+hi)/2< l.length:=by omega
   obtain⟨p,hp⟩:∃p,l[(lo+hi)/2]'hm=p:=⟨_,rfl⟩
   rw[hp]at c1 c2
   have hk:=wD hr.out key ((lo+hi)/2) hm
   rw[hp]at hk
   have hc:=KO (ze p key)
   have hneg:=FU (p:=p) (k:=key)
   clear hp hA
   by_cases hx:p.key< key
   ·have hx2:=hneg.2 hx
    have hk2:=hk.1 hx
    clear hk hneg hx
    go_wp2_with (go_at_call 99;refine(hc.out _).mono ?_;rintro e w1 ⟨rfl,hb1⟩)
    go_roundw
    case rel=>exact⟨(lo+hi)/2+1,hi,by rw[show((lo:Int)+(hi:Int))/2+1=(((lo+hi)/2+1:Nat):Int)by omega],rfl,by omega,hin,aa hb hb1,by omega,h2⟩
    case measure=>simp[intOf];omega
   ·have hx2:=mt hneg.1 hx
    have hk2:=mt hk.2 hx
    clear hk hneg hx
    go_wp2_with (go_at_call 99;refine(hc.out _).mono ?_;rintro e w1 ⟨rfl,hb1⟩)
    go_roundw
    case rel=>exact⟨lo,(lo+hi)/2,rfl,by rw[show((lo:Int)+(hi:Int))/2=(((lo+hi)/2:Nat):Int)by omega],by omega,by omega,aa hb hb1,h1,by omega⟩
    case measure=>simp[intOf];omega
  ·have hlo:=KO (show lo=bel l key by omega)
   by_cases hn:lo< l.length
   ·obtain⟨b,off,rfl,hbl,c1,c2⟩:=hA.prB hb lo hn
    obtain⟨p,hp⟩:∃p,l[lo]'hn=p:=⟨_,rfl⟩
    rw[hp]at c1 c2
    have hc:=KO (ze p key)
    have hz:=Ez (p:=p) (k:=key)
    have hh:Hid (has l key=decide (wF p key=0)):=KO (by
     rw[Bool.eq_iff_iff,decide_eq_true_iff,BH hr.out,hz,<-hp]
     have e:=hlo.out
     subst e
     exact⟨fun⟨_,h⟩=>h,fun h=>⟨hn,h⟩⟩)
    clear hp hA hz
    go_wp2_with (go_at_call 99;refine(hc.out _).mono ?_;rintro e w1 ⟨rfl,hb1⟩)
    go_ret2
    refine⟨?_,aa hb hb1⟩
    rw[hh.out,hlo.out];rfl
   ·have hh:Hid (has l key=false):=KO (by
     rw[Bool.eq_false_iff,Ne,BH hr.out]
     rintro⟨h,_⟩
     omega)
    go_wp2
    go_ret2
    refine⟨?_,hb⟩
    rw[hh.out,hlo.out];rfl
theorem ET (A:Option Addr) (l:List Pr) (c:Nat) (key:Int) (w:World) (hA:Sl w A (l.flatMap Pr.cells)) (hl:l.length<=4611686018427387903) (hr:Hid (Ris l)):
  Calls prog 84 #[.slice A l.length c,.int .i64 key] w fun r w'=>r= .returned (.tuple #[.int .i64 (bel l key),.bool (has l key)])/\Below w.heap.size w w':=by
 go_enter func84,ntmps84
 go_wp2_with (go_at_call 98;refine(zS A l c key _ hA hl hr).mono ?_;rintro e w1 ⟨rfl,hb1⟩)
 go_ret2
 exact⟨rfl,hb1⟩
theorem dL {s:Ss} (h:bF s=true):s.vs.length=s.ks.length/\s.ks.length<=64*s.ws.length/\eT s.seg s.ks.length=true/\s.cs.length=s.ks.length/s.seg.toNat:=by
 unfold bF lY at h
 simp only[Lm,decide_eq_true_eq]at h
 obtain⟨⟨⟨⟨⟨h1,h2⟩,h3⟩,h4⟩,_⟩,_⟩:=h
 refine⟨h2,?_,h1,h4⟩
 unfold fZ at h3
 by_cases h5:s.ws.length=(s.ks.length+63)/64/\(s.ks.length %64=0∨s.ws.getD (s.ws.length-1) 0/2 ^ (s.ks.length %64)=0)
 ·have:=h5.1;omega
 ·rw[if_neg h5]at h3;cases h3
def bE (s:Ss):List Pr:=ma s 0 s.ks.length
theorem lu (s:Ss):(bE s).length<=s.ks.length:=by unfold bE;rw[qL,dU];exact eZ _ _ _
def lU (s:Ss):Int:=if bF s=true then(if Ris (bE s)then 0 else 130)else 8
theorem xU (s:Ss) (w:World) (hs:SsAt w s) (ho:SsOk s):Calls prog 113 #[.agg s.row] w fun r w'=>r= .returned (.int .i64 (lU s))/\Below w.heap.size w w':=by
 obtain⟨R,hR⟩:∃R,lU s=R:=⟨_,rfl⟩
 rw[hR]
 unfold lU at hR
 have q1:=fun W (h:SsAt W s)=>uA s W h ho
 have q2:=fun(hm:bF s=true) W (h:SsAt W s)=>sD s 0 s.ks.length W h ho (dL hm).1 (by omega) (by have:=(dL hm).2.1;omega)
 rw[Nat.zero_add]at q2
 have hlen:(bE s).length<=300:=KY (lu s) ho.kl
 obtain⟨E,hE⟩:∃E,bF s=E:=⟨_,rfl⟩
 change ∀hm W,SsAt W s->Calls _ _ _ W (dZ (bE s) W)at q2
 obtain⟨L,hL⟩:∃L,bE s=L:=⟨_,rfl⟩
 obtain⟨D,hD⟩:∃D,decide (Ris L)=D:=⟨_,rfl⟩
 have q3:=fun A c W (h:Sl W A (L.flatMap Pr.cells))=>wo A L c W h (by rw[<-hL];omega)
 rw[hL]at q2 hR
 rw[hE]at q1 q2 hR
 rw[hD]at q3
 have hD2:(if Ris L then(0:Int)else 130)=if D=true then 0 else 130:=by rw[<-hD];by_cases h:Ris L <;> simp[h]
 rw[hD2]at hR
 have HR:=KO hR
 have Q1:=KO q1
 have Q2:=KO q2
 have Q3:=KO q3
 have HS:=KO hs
 clear hR q1 q2 q3 hE hL hD hD2 hlen hs ho
 go_enter func113,ntmps113
 have HF:=KO (KR w.heap.size w)
 have HY1:=KO (HS.out)
 go_upto_region 1 with fail
 obtain⟨U2,h3⟩:∃U,w.alloc (.cells s.row 29)=U:=⟨_,rfl⟩
 have ba4:Below w.heap.size w U2:=by rw[<-h3];exact(KR _ _).alloc (by first|(simp;done)|(simp;omega)) _
 have bn5:Blk U2 (w.heap.size) 29 s.row:=by
  rw[<-h3]
  have hq:=(Blk.new w 29 s.row)
  exact hq
 try rw[h3]
 have HF6:=KO (aa HF.out ba4)
 have HY7:=KO (SsAt.below HY1.out ba4)
 clear HF HY1
 obtain⟨g8,h9⟩:∃g,(w.heap.size)=g:=⟨_,rfl⟩
 rw[h9]at bn5
 try rw[h9]
 have HX10:=KO bn5
 clear bn5 h9
 clear h3 ba4
 have c11:=HX10.out.cell
 have l17:g8< U2.heap.size:=HX10.out.lt
 go_wp2_with fail
 clear c11 l17
 refine(Q1.out _ HY7.out).mono ?_
 rintro e w18 ⟨rfl,hb19⟩
 have HF20:=KO (aa HF6.out hb19)
 have HX21:=KO (HX10.out.below hb19 HX10.out.lt)
 have HY22:=KO (SsAt.below HY7.out hb19)
 clear HF6 HX10 HY7
 clear hb19
 cases E with
 |false=>
  obtain rfl:R=8:=by rw[<-HR.out];simp
  go_wp2_with fail
  go_ret
  exact⟨rfl,HF20.out⟩
 |true=>
 have c23:=HX21.out.cell
 have l29:g8< w18.heap.size:=HX21.out.lt
 go_wp2_with fail
 clear c23 l29
 refine(Q2.out (by first|rfl|trivial) _ HY22.out).mono ?_
 rintro e w30 ⟨A8,c8,rfl,ho8,hb31⟩
 have HP8:=KO (aA ho8)
 clear ho8
 have HF32:=KO (aa HF20.out hb31)
 have HX33:=KO (HX21.out.below hb31 HX21.out.lt)
 have HY34:=KO (SsAt.below HY22.out hb31)
 clear HF20 HX21 HY22
 clear hb31
 go_wp2_with fail
 refine(Q3.out A8 c8 _ HP8.out).mono ?_
 rintro e w35 ⟨rfl,hb36⟩
 have HF37:=KO (aa HF32.out hb36)
 have HX38:=KO (HX33.out.below hb36 HX33.out.lt)
 have HY39:=KO (SsAt.below HY34.out hb36)
 clear HF32 HX33 HY34
 clear hb36
 cases D with
 |false=>
  obtain rfl:R=130:=by rw[<-HR.out];simp
  go_wp2_with fail
  go_ret
  exact⟨rfl,HF37.out⟩
 |true=>
 obtain rfl:R=0:=by rw[<-HR.out];simp
 go_wp2_with fail
 go_ret
 exact⟨rfl,HF37.out⟩
theorem Da (w:World) (s:Ss):∃W,w.alloc (.cells s.row 29)=W/\Below w.heap.size w W/\Blk W w.heap.size 29 s.row:=⟨_,rfl,(KR _ _).alloc (KS _) _,Blk.new _ _ _⟩
theorem EC {w:World} {g:Nat} {s:Ss} (h:Blk w g 29 s.row):g< w.heap.size/\w.cell? ⟨g,0,none⟩=some (.int .i64 s.seg)/\w.cell? ⟨g,1,none⟩=some (.slice s.wA s.ws.length s.wc)/\w.cell? ⟨g,2,none⟩=some (.slice s.kA s.ks.length s.kc)/\w.cell? ⟨g,3,none⟩=some (.slice s.vA s.vs.length s.vc)/\w.cell? ⟨g,4,none⟩=some (.slice s.cA s.cs.length s.cc)/\w.cell? ⟨g,5,none⟩=some (.int .u64 s.laid):=
 ⟨h.lt,h.cell 0,h.cell 1,h.cell 2,h.cell 3,h.cell 4,h.cell 5⟩
theorem Js {p:Nat->Bool} {n k:Nat} (h:(Lt n).all p=true) (hk:k< n):p k=true:=by
 rw[List.all_eq_true]at h
 exact h k (List.mem_range.2 hk)
theorem xh {s:Ss} (h:bF s=true) {k:Nat} (hk:k< s.cs.length):s.cs[k]'hk=((bf s.ws (k*s.seg.toNat) s.seg.toNat:Nat):Int):=by
 unfold bF at h
 simp only[Lm]at h
 have h1:=Js h.2 hk
 unfold countB at h1
 rw[decide_eq_true_eq,Lf,K7 hk]at h1
 exact h1
theorem xO (ws:List Nat) (a j G:Nat):bf ws (a*G) (j*G)+bf ws ((a+j)*G) G=bf ws (a*G) ((j+1)*G):=by
 rw[ML j,Mo,rO,ML]
structure SegN (s:Ss) (G D:Nat):Prop where
 seg:s.seg=(G:Int)
 g4:4<=G
 g64:G<=64
 cl:s.cs.length=D
 kl:s.ks.length=G*D
 d0:0< D
theorem fG {s:Ss} (h:bF s=true):SegN s s.seg.toNat s.cs.length:=by
 have hf:=dL h
 have h2:=sJ hf.2.2.1
 refine⟨by omega,by omega,by omega,rfl,by rw[hf.2.2.2];exact h2.2.2.2.2,?_⟩
 rcases Nat.eq_zero_or_pos s.cs.length with h0|h0
 ·have h3:=h2.2.2.2.2
  rw[<-hf.2.2.2,h0]at h3
  have:=h2.2.2.1
  omega
 ·exact h0
theorem uy (s:Ss) (a b F T:Nat) (w:World) (hs:SsAt w s) (ho:SsOk s) (hm:bF s=true) (hcap:s.cs.length<=s.cc) (hab:a< b) (hb:b<=s.cs.length) (hF:a*s.seg.toNat=F) (hT:b*s.seg.toNat=T):
  Calls prog 199 #[.agg s.row,.int .i64 (F:Nat),.int .i64 (T:Nat)] w fun r w'=>r= .returned (.int .i64 (bf s.ws F (T-F):Nat))/\Below w.heap.size w w':=by
 have hcnt:=fun k (hk:k< s.cs.length)=>xh hm hk
 have hsg:=fG hm
 obtain⟨G,hG⟩:∃G,s.seg.toNat=G:=⟨_,rfl⟩
 rw[hG]at hF hT hsg hcnt
 have HTF:T-F=(b-a)*G:=by rw[<-hF,<-hT,Nat.sub_mul]
 rw[HTF]
 obtain⟨R,hR⟩:∃R,bf s.ws F ((b-a)*G)=R:=⟨_,rfl⟩
 rw[hR]
 obtain⟨b1,o1,e1,hbl1,-⟩:=hs.cnts.one a (by omega)
 have HCN:=KO (fun W (hW:Below w.heap.size w W) j (hj:a+j< s.cs.length)=>show W.cell? ⟨b1,o1+a+j,none⟩=some (.int .i64 ((bf s.ws ((a+j)*G) G:Nat):Int))from by
  obtain⟨b2,o2,e2,hbl2,h2⟩:=hs.cnts.oneB hW (a+j) hj
  rw[e1]at e2
  cases e2
  rw[Nat.add_assoc,h2,hcnt _ hj];rfl)
 obtain⟨W0,hW0,hb0,b0⟩:=Da w s
 have HW0:=KO hW0
 have HB0:=KO hb0
 have q0:W0.cell? ⟨w.heap.size,0,none⟩=some (.int .i64 (G:Int)):=(b0.cell 0).trans (by rw[<-hsg.seg];rfl)
 have q4:W0.cell? ⟨w.heap.size,4,none⟩=some (.slice (some ⟨b1,o1,none⟩) s.cs.length s.cc):=(b0.cell 4).trans (by rw[<-e1];rfl)
 have hGp:0< G:=by have:=hsg.g4;omega
 have j1:(F:Int)/(G:Int)=(a:Int):=by rw[<-hF,MI];exact Int.mul_ediv_cancel _ (by omega)
 have j2:(T:Int)/(G:Int)=(b:Int):=by rw[<-hT,MI];exact Int.mul_ediv_cancel _ (by omega)
 have hb9:b<=300:=by have:=ho.cl;omega
 have hT9:T<=300*64:=by rw[<-hT];exact MH hb9 hsg.g64
 have g0:¬(G:Int)=0:=by omega
 have g1:(0:Int)< (G:Int):=by omega
 have k1:(0:Int)<=(a:Int):=by omega
 have k2:(a:Int)<=(b:Int):=by omega
 have k3:(b:Int)<=(s.cc:Int):=by omega
 have hne:¬s.cc=a:=by omega
 have k4:(0:Int)<=(F:Int):=by omega
 have k5:(0:Int)<=(T:Int):=by omega
 have j3:∀[Inhabited Nat],wrap64 (a:Int)=(a:Int):=nT a (by omega)
 have j4:∀[Inhabited Nat],wrap64 (b:Int)=(b:Int):=nT b (by omega)
 have HR:=KO hR
 have HF:=KO hF
 have HBL:=KO hb
 have HS:=KO hsg
 have HAB:=KO (KW hab (KW hb9 (KW hcap hGp)))
 clear hW0 hb0 b0 hs ho hm hcap hab hb hF hT hcnt hsg hG HTF hR hbl1 hGp hb9 hT9 e1
 go_enter func199,ntmps199
 go_upto_region 1 with fail
 rw[HW0.out]
 go_big_quiet (fail)
 have HB1:=KO (aa HB0.out (ay (KR W0.heap.size W0) nq))
 obtain⟨W1,hW1⟩:∃W,W0.drewN nq=W:=⟨_,rfl⟩
 rw[hW1]at HB1 ⊢
 obtain⟨N,hN⟩:∃N,b-a=N:=⟨_,rfl⟩
 rw[hN]at HR ⊢
 have HN:=KO hN
 have HNL:=KO (show N<=300 by have:=HAB.out.2.1;omega)
 clear hW1 q0 q4 j1 j2 j3 j4 g0 g1 k1 k2 k3 k4 k5 hne hN HB0 HW0
 go_wp2_with fail
 go_loopw [6,21] (fun e i wr=>∃j M:Nat,j<=N/\i= .int .i64 j/\e= .int .i64 M/\wr=W1/\Hid (M=bf s.ws F (j*G))) (fun _ i _=>N-(intOf i).toNat)
 case atStart=>exact⟨0,0,K8 _,rfl,rfl,rfl,by show _=_;rw[Nat.zero_mul];rfl⟩
 case round=>
  obtain⟨j,M,hj,rfl,rfl,hww,hM⟩:=hrel
  subst hww
  by_cases hlt:j< N
  ·have hc:=HCN.out wr HB1.out j (by have:=HN.out;have:=HBL.out;omega)
   have hst:=xO s.ws a j G
   rw[HF.out]at hst
   have hcl:=eZ s.ws ((j+1)*G) F
   have hjG:(j+1)*G<=301*64:=MH (by have:=HNL.out;omega) HS.out.g64
   rw[<-hM.out]at hst
   obtain⟨C,hC⟩:∃C,bf s.ws ((a+j)*G) G=C:=⟨_,rfl⟩
   rw[hC]at hc hst
   obtain⟨M2,hM2⟩:∃C,bf s.ws F ((j+1)*G)=C:=⟨_,rfl⟩
   rw[hM2]at hst hcl
   have HM2:=KO hM2
   have hw1:IntKind.i64.wrap ((M:Int)+(C:Int))=(M2:Int):=by rw[KU _ (by omega)];omega
   have hw2:=aU j (by have:=HNL.out;omega)
   have i1:(j:Int)< (N:Int):=by omega
   have i2:(0:Int)<=(j:Int):=by omega
   have HLT:=KO hlt
   have HW2:=KO hw2
   clear hst hcl hjG hC hM2 hlt hw2
   have c1:wr.cell? ⟨b1,o1+a+j,none⟩=some (.int .i64 (C:Nat)):=hc
   go_wp2_with fail
   go_roundw
   case rel=>exact⟨j+1,M2,HLT.out,by rw[HW2.out],rfl,trivial,HM2.out.symm⟩
   case measure=>exact bT _ j HLT.out HW2.out
  ·have hjN:j=N:=by omega
   have i1:¬(j:Int)< (N:Int):=by omega
   have HE:=KO (show M=R by rw[hM.out,hjN,HR.out])
   clear hlt hM hjN hj
   go_wp2_with fail
   go_ret
   exact⟨by first|exact rfl|(rw[HE.out];exact rfl),HB1.out⟩
theorem pW (s:Ss) (a b F T:Nat) (w:World) (hs:SsAt w s) (ho:SsOk s) (hm:bF s=true) (hab:a<=b) (hb:b<=s.cs.length) (hF:a*s.seg.toNat=F) (hT:b*s.seg.toNat=T):
  Calls prog 164 #[.agg s.row,.int .i64 (F:Nat),.int .i64 (T:Nat)] w fun r w'=>r= .returned (.int .i64 (bf s.ws F (T-F):Nat))/\Below w.heap.size w w':=by
 have hcnt:=fun k (hk:k< s.cs.length)=>xh hm hk
 have hsg:=fG hm
 obtain⟨G,hG⟩:∃G,s.seg.toNat=G:=⟨_,rfl⟩
 rw[hG]at hF hT hsg hcnt
 have HTF:T-F=(b-a)*G:=by rw[<-hF,<-hT,Nat.sub_mul]
 rw[HTF]
 obtain⟨R,hR⟩:∃R,bf s.ws F ((b-a)*G)=R:=⟨_,rfl⟩
 rw[hR]
 obtain⟨b1,o1,e1,hbl1,-⟩:=hs.cnts.one 0 (by have:=hsg.d0;omega)
 have HCN:=KO (fun W (hW:Below w.heap.size w W) j (hj:j< s.cs.length)=>show W.cell? ⟨b1,o1+j,none⟩=some (.int .i64 ((bf s.ws (j*G) G:Nat):Int))from by
  obtain⟨b2,o2,e2,hbl2,h2⟩:=hs.cnts.oneB hW j hj
  rw[e1]at e2
  cases e2
  rw[h2,hcnt _ hj];rfl)
 obtain⟨W0,hW0,hb0,b0⟩:=Da w s
 have HW0:=KO hW0
 have HB0:=KO hb0
 have q0:W0.cell? ⟨w.heap.size,0,none⟩=some (.int .i64 (G:Int)):=(b0.cell 0).trans (by rw[<-hsg.seg];rfl)
 have q4:W0.cell? ⟨w.heap.size,4,none⟩=some (.slice (some ⟨b1,o1,none⟩) s.cs.length s.cc):=(b0.cell 4).trans (by rw[<-e1];rfl)
 have hGp:0< G:=by have:=hsg.g4;omega
 have j1:(F:Int)/(G:Int)=(a:Int):=by rw[<-hF,MI];exact Int.mul_ediv_cancel _ (by omega)
 have j2:(T:Int)/(G:Int)=(b:Int):=by rw[<-hT,MI];exact Int.mul_ediv_cancel _ (by omega)
 have hb9:b<=300:=by have:=ho.cl;omega
 have g0:¬(G:Int)=0:=by omega
 have g1:(0:Int)< (G:Int):=by omega
 have k4:(0:Int)<=(F:Int):=by omega
 have k5:(0:Int)<=(T:Int):=by omega
 have hT9:T<=300*64:=by rw[<-hT];exact MH hb9 hsg.g64
 have j3:∀[Inhabited Nat],wrap64 (a:Int)=(a:Int):=nT a (by omega)
 have j4:∀[Inhabited Nat],wrap64 (b:Int)=(b:Int):=nT b (by omega)
 obtain⟨N,hN⟩:∃N,b-a=N:=⟨_,rfl⟩
 rw[hN]at hR
 have HR:=KO hR
 have HN:=KO (show a+N=b/\N<=300/\b<=s.cs.length/\s.cs.length<=300 by have:=ho.cl;exact⟨by omega,by omega,hb,this⟩)
 have HF:=KO hF
 have HS:=KO hsg
 clear hW0 hb0 b0 hs ho hm hab hb hF hT hcnt hsg hG HTF hR hbl1 hGp hb9 hT9 e1 hN
 go_enter func164,ntmps164
 go_upto_region 1 with fail
 rw[HW0.out]
 go_wp2_with fail
 go_loopw [7,8] (fun e i wr=>∃j k M:Nat,j<=N/\k=a+j/\i= .int .i64 k/\e= .int .i64 M/\wr=W0/\Hid (M=bf s.ws F (j*G))) (fun _ i _=>b-(intOf i).toNat)
 case atStart=>exact⟨0,a,0,K8 _,rfl,by first|rfl|(rw[j3])|simp[j1,j3],rfl,rfl,by show _=_;rw[Nat.zero_mul];rfl⟩
 case round=>
  obtain⟨j,k,M,hj,hk,rfl,rfl,hww,hM⟩:=hrel
  subst hww
  by_cases hlt:j< N
  ·have hc:=HCN.out wr HB0.out k (by have:=HN.out;omega)
   have hst:=xO s.ws a j G
   rw[HF.out,<-hk]at hst
   have hcl:=eZ s.ws ((j+1)*G) F
   have hjG:(j+1)*G<=301*64:=MH (by have:=HN.out;omega) HS.out.g64
   rw[<-hM.out]at hst
   obtain⟨C,hC⟩:∃C,bf s.ws (k*G) G=C:=⟨_,rfl⟩
   rw[hC]at hc hst
   obtain⟨M2,hM2⟩:∃C,bf s.ws F ((j+1)*G)=C:=⟨_,rfl⟩
   rw[hM2]at hst hcl
   have HM2:=KO hM2
   have hkb:k< b:=by have:=HN.out;omega
   have i1:(k:Int)< (b:Int):=by omega
   have i2:(0:Int)<=(k:Int):=by omega
   have i3:(k:Int)< (s.cs.length:Int):=by have:=HN.out;omega
   have HLT:=KO (KW hlt (KW hkb hk))
   have i4:k< b:=hkb
   have hw1:IntKind.i64.wrap ((M:Int)+(C:Int))=(M2:Int):=by rw[KU _ (by omega)];omega
   have hw2:=aU k (by have:=HN.out;omega)
   have HW2:=KO hw2
   clear hst hcl hjG hC hM2 hlt hw2 hkb hk
   have c1:wr.cell? ⟨b1,o1+k,none⟩=some (.int .i64 (C:Nat)):=hc
   go_wp2_with fail
   go_roundw
   case rel=>exact⟨j+1,k+1,M2,HLT.out.1,by have:=HLT.out.2.2;omega,by rw[HW2.out],rfl,trivial,HM2.out.symm⟩
   case measure=>exact bT _ k HLT.out.2.1 HW2.out
  ·have hjN:j=N:=by omega
   have hkb:¬k< b:=by have:=HN.out;omega
   have i1:¬(k:Int)< (b:Int):=by omega
   have HE:=KO (show M=R by rw[hM.out,hjN,HR.out])
   clear hlt hM hjN hj hk
   go_wp2_with fail
   go_ret
   exact⟨by first|exact rfl|(rw[HE.out];exact rfl),HB0.out⟩
theorem zk (s:Ss) (w:World) (hs:SsAt w s) (ho:SsOk s) (hm:bF s=true):
  Calls prog 150 #[.agg s.row] w fun r w'=>r= .returned (.int .i64 (bf s.ws 0 s.ks.length:Nat))/\Below w.heap.size w w':=by
 obtain⟨W0,hW0,hb0,b0⟩:=Da w s
 have hsg:=fG hm
 have ham:=pW s 0 s.cs.length 0 s.ks.length W0 (hs.below hb0) ho hm (K8 _) (KS _) (Nat.zero_mul _) (by rw[hsg.kl,Nat.mul_comm])
 rw[Nat.sub_zero]at ham
 obtain⟨M,hM⟩:∃M,bf s.ws 0 s.ks.length=M:=⟨_,rfl⟩
 rw[hM]at ham ⊢
 have HAM:=KO ham
 have HW0:=KO hW0
 have HB0:=KO hb0
 clear hW0 hb0 hs ho hm hsg ham hM
 obtain⟨i0,q0,q1,q2,q3,q4,q5⟩:=EC b0
 clear b0
 go_enter func150,ntmps150
 go_upto_region 1 with fail
 rw[HW0.out]
 go_wp2_with fail
 refine HAM.out.mono ?_
 rintro e w1 ⟨rfl,hb1⟩
 have HB1:=KO (aa HB0.out hb1)
 clear hb1 q0 q1 q2 q3 q4 q5 i0
 go_wp2_with fail
 go_ret
 exact⟨rfl,HB1.out⟩
theorem bU {x y:Int} {n m:Nat} (hx:x.natAbs<=n) (hy:y.natAbs<=m):(x*y).natAbs<=n*m:=by rw[Int.natAbs_mul];exact MH hx hy
theorem dP {h:Nat} (h1:h<=7):2 ^ h<=128:=Lj (n:=2) (by decide) h1
theorem BX (x m:Nat) (hm:m< 64) (hb:x*2 ^ m<=1000000) (w:World):(binOp .shl 3 (.int .i64 (x:Nat)) (.int .i64 (m:Nat))).run prog w= .ok (.int .i64 ((x*2 ^ m:Nat):Int)) w:=by
 have i5:(0:Int)<=(m:Int):=by omega
 have i6:(m:Int)<=64:=by omega
 have h:(x:Int)*2 ^ m=((x*2 ^ m:Nat):Int):=by rw[MI,Int.natCast_pow];rfl
 obtain⟨Y,hY⟩:∃Y,x*2 ^ m=Y:=⟨_,rfl⟩
 rw[hY]at h hb ⊢
 have hw:IntKind.i64.wrap (Y:Int)=(Y:Int):=KU _ (by omega)
 clear hY hb
 rw[<-hw,<-h]
 rw[<-h]at hw
 clear h
 go_simp
theorem gz {ops:Array Oper} {rest:List Oper} {o:Oper} {a:Act} {w:World} {Q:Exit->Act->World->Prop} (hgd:o.guard=none) (s x:Operand) (ty:TypeId)
  (ho:o.op= .binOp .shl 3 s x ty) (X m Y:Nat) (hm:m< 64) (hs:a.eval s= .int .i64 (X:Nat)) (hx:a.eval x= .int .i64 (m:Nat)) (hY:X*2 ^ m=Y) (hb:Y<=1000000)
  (h:wpList prog ops Q rest (a.put o.dst (.int .i64 (Y:Nat))) w):wpList prog ops Q (o::rest) a w:=by
 refine wpList_plain hgd fun K hK=>?_
 have hrun:=BX X m hm (by rw[hY];exact hb) w
 rw[hY]at hrun
 unfold Oper.wp execOp
 have hg:(eqGuard .shl 3 s x (.int .i64 (X:Nat)) (.int .i64 (m:Nat))).run prog w= .ok () w:=rfl
 simp only[ho,hs,hx,Sem.run_bind,Sem.run_pure,Result.andThen_ok,hg,hrun]
 exact hK _ _ h
theorem GN {o:Oper} {a:Act} {w:World} {K:Act->World->Prop} {Q:Exit->Act->World->Prop} (s x:Operand) (ty:TypeId)
  (ho:o.op= .binOp .shl 3 s x ty) (X m Y:Nat) (hm:m< 64) (hs:a.eval s= .int .i64 (X:Nat)) (hx:a.eval x= .int .i64 (m:Nat)) (hY:X*2 ^ m=Y) (hb:Y<=1000000)
  (h:K (a.put o.dst (.int .i64 (Y:Nat))) w):o.wp prog a w K Q:=by
 have hrun:=BX X m hm (by rw[hY];exact hb) w
 rw[hY]at hrun
 unfold Oper.wp execOp
 have hg:(eqGuard .shl 3 s x (.int .i64 (X:Nat)) (.int .i64 (m:Nat))).run prog w= .ok () w:=rfl
 simp only[ho,hs,hx,Sem.run_bind,Sem.run_pure,Result.andThen_ok,hg,hrun]
 exact h
theorem J7 {x:Int} (h:x.natAbs<=60000000):eG x=true:=by unfold eG;rw[decide_eq_true (by omega),decide_eq_true (by omega)];rfl
def nU (H h:Nat) (a b:Int):Int:=if 0< H then a*(H:Int)+(b-a)*(h:Int)else b
def Ci (H:Nat) (d:Int):Int:=if 0< H then d*(H:Int)else d
theorem yf (a b:Int) (h H:Nat) (w:World) (h1:1<=H) (h2:h<=H) (h3:H<=64) (ha:0<=a/\a<=64) (hb:0<=b/\b<=64):
  Calls prog 227 #[.int .i64 a,.int .i64 b,.int .i64 (h:Nat),.int .i64 (H:Nat)] w fun r w'=>r= .returned (.tuple #[.int .i64 (a*(H:Int)+(b-a)*(h:Int)),.int .i64 0])/\Below w.heap.size w w':=by
 have HS:Hid (∀n∈[a,b,(h:Int),(H:Int)],eG n=true):=fun n hn=>by
  simp at hn
  rcases hn with rfl|rfl|rfl|rfl <;> exact J7 (by omega)
 have p1:=bU (x:=a) (y:=(H:Int)) (n:=64) (m:=64) (by omega) (by omega)
 have p2:=bU (x:=b-a) (y:=(h:Int)) (n:=64) (m:=64) (by omega) (by omega)
 have i1:¬(H:Int)< 1:=by omega
 have i2:¬(h:Int)< 0:=by omega
 have i3:¬(H:Int)< (h:Int):=by omega
 obtain⟨X,hX⟩:∃X,a*(H:Int)=X:=⟨_,rfl⟩
 obtain⟨D,hD⟩:∃X,b-a=X:=⟨_,rfl⟩
 have hwD:IntKind.i64.wrap (b-a)=D:=by rw[hD];exact KU _ (by omega)
 rw[hX]at p1 ⊢
 rw[hD]at p2 ⊢
 obtain⟨Y,hY⟩:∃X,D*(h:Int)=X:=⟨_,rfl⟩
 rw[hY]at p2 ⊢
 have hw1:IntKind.i64.wrap (a*(H:Int))=X:=by rw[hX];exact KU _ (by omega)
 have hw2:IntKind.i64.wrap (D*(h:Int))=Y:=by rw[hY];exact KU _ (by omega)
 have hw3:IntKind.i64.wrap (X+Y)=X+Y:=KU _ (by omega)
 have ha:Below w.heap.size w (w.alloc (.cells #[.int .i64 a,.int .i64 b,.int .i64 (h:Nat),.int .i64 (H:Nat)] 3)):=(KR _ _).alloc (KS _) _
 have HA:=KO ha
 clear ha hX hD hY p1 p2
 go_enter func227,ntmps227
 go_wp2_with fail
 refine(vF (some ⟨w.heap.size,0,none⟩) [a,b,h,H] 4 _ (by exact df _ _ _) (by simp) HS.out).mono ?_
 rintro e w1 ⟨rfl,rfl⟩
 go_wp2_with fail
 refine KV (v:= .tuple #[.int .i64 (X+Y),.int .i64 0]) (by simp[results,results227,go_sem]) rfl ?_
 exact⟨rfl,HA.out⟩
theorem pI (c:Cfg) (g d H h n:Nat) (a b:Int) (w:World) (hg:c.seg=(g:Int)) (hd:c.den=(d:Int)) (hg2:g<=64) (hd2:d<=64) (hH:H<=7) (hh:h<=H) (hn:n<=1000) (ha:0<=a/\a<=64) (hb:0<=b/\b<=64):
  Calls prog 216 #[.agg c.row,.int .i64 (H:Nat),.int .i64 (h:Nat),.int .i64 (n:Nat),.int .i64 a,.int .i64 b] w fun r w'=>r= .returned (.int .i64 (zg ((n:Int)*Ci H (d:Int)-((g*2 ^ h:Nat):Int)*nU H h a b)))/\Below w.heap.size w w':=by
 obtain⟨W0,hW0⟩:∃W0,w.alloc (.cells c.row 24)=W0:=⟨_,rfl⟩
 have hb0:Below w.heap.size w W0:=by rw[<-hW0];exact(KR _ _).alloc (KS _) _
 have b0:Blk W0 w.heap.size 24 c.row:=by rw[<-hW0];exact Blk.new _ _ _
 have HW0:=KO hW0
 have HB0:=KO hb0
 have HC0:=KO b0
 have c2:W0.cell? ⟨w.heap.size,2,none⟩=some (.int .i64 (g:Int)):=(b0.cell 2).trans (by rw[<-hg];rfl)
 have c4:W0.cell? ⟨w.heap.size,4,none⟩=some (.int .i64 (d:Int)):=(b0.cell 4).trans (by rw[<-hd];rfl)
 have HG:=KO (show(some (Value.int .i64 c.seg)=some (.int .i64 (g:Int)))/\(some (Value.int .i64 c.den)=some (.int .i64 (d:Int)))by rw[hg,hd];exact⟨rfl,rfl⟩)
 have hp:=dP (show h<=7 by omega)
 have hY0:g*2 ^ h<=64*128:=MH hg2 hp
 obtain⟨Y,hY⟩:∃Y,g*2 ^ h=Y:=⟨_,rfl⟩
 rw[hY]at hY0 ⊢
 have HYY:=KO hY
 obtain⟨L,hL⟩:∃L,nU H h a b=L:=⟨_,rfl⟩
 obtain⟨O,hO⟩:∃O,Ci H (d:Int)=O:=⟨_,rfl⟩
 rw[hL,hO]
 have hlo:eG L=true/\eG O=true:=by
  have p1:=bU (x:=a) (y:=(H:Int)) (n:=64) (m:=64) (by omega) (by omega)
  have p2:=bU (x:=b-a) (y:=(h:Int)) (n:=64) (m:=64) (by omega) (by omega)
  have p3:=bU (x:=(d:Int)) (y:=(H:Int)) (n:=64) (m:=64) (by omega) (by omega)
  rw[<-hL,<-hO];unfold nU Ci
  split <;> exact⟨J7 (by omega),J7 (by omega)⟩
 have hcr:=fun W=>uT (n:Int) (Y:Int) L O W (J7 (by omega)) (J7 (by omega)) hlo.1 hlo.2
 have HCR:=KO hcr
 have hh6:h< 64:=by omega
 have hY9:Y<=1000000:=by omega
 have HG9:=KO (KW hh6 hY9)
 unfold nU at hL
 unfold Ci at hO
 have HL:=KO hL
 have HO:=KO hO
 have HN:=KO (KW hH (KW hh (KW ha (KW hb hd2))))
 clear hW0 hb0 b0 hg hd hg2 hp hY0 hY hL hO hlo hcr hn hh6 hY9 hH hh ha hb hd2
 go_enter func216,ntmps216
 go_upto_region 1 with fail
 rw[HW0.out]
 go_quiet (fail)
 have HDB:=KO (aa HB0.out (ay (KR W0.heap.size W0) nq))
 have HCB:=KO (HC0.out.below (ay (KR W0.heap.size W0) nq) HC0.out.lt)
 obtain⟨W1,hW1⟩:∃W,W0.drewN nq=W:=⟨_,rfl⟩
 rw[hW1]at HDB HCB ⊢
 clear hW1 c2 c4 HB0 HC0 HW0
 have hc:=HCB.out
 have c2:W1.cell? ⟨w.heap.size,2,none⟩=some (.int .i64 (g:Int)):=(hc.cell 2).trans HG.out.1
 have c4:W1.cell? ⟨w.heap.size,4,none⟩=some (.int .i64 (d:Int)):=(hc.cell 4).trans HG.out.2
 clear hc
 by_cases hz:0< H
 ·have i1:(0:Int)< (H:Int):=by omega
  have hl:=HL.out
  have ho:=HO.out
  rw[if_pos hz]at hl ho
  have hbt:=fun W=>yf a b h H W hz HN.out.2.1 (by have:=HN.out.1;omega) HN.out.2.2.1 HN.out.2.2.2.1
  rw[hl]at hbt
  have HBT:=KO hbt
  have hwo:IntKind.i64.wrap ((d:Int)*(H:Int))=O:=by
   have p3:=bU (x:=(d:Int)) (y:=(H:Int)) (n:=64) (m:=64) (by have:=HN.out.2.2.2.2;omega) (by have:=HN.out.1;omega)
   rw[ho]at p3 ⊢
   exact KU _ (by omega)
  clear hl ho hbt hz
  go_wp2_with fail
  refine(HBT.out _).mono ?_
  rintro e w2 ⟨rfl,hb2⟩
  have HDB2:=KO (aa HDB.out hb2)
  have hc2:=HCB.out.below hb2 HCB.out.lt
  clear c2 c4 hb2
  have c2:w2.cell? ⟨w.heap.size,2,none⟩=some (.int .i64 (g:Int)):=(hc2.cell 2).trans HG.out.1
  have c4:w2.cell? ⟨w.heap.size,4,none⟩=some (.int .i64 (d:Int)):=(hc2.cell 4).trans HG.out.2
  clear hc2
  go_upto_region 5 with fail
  repeat (first|go_values|go_skip|go_guarded|(refine gz rfl (.tmp 37) (.tmp 38) _ rfl g h Y HG9.out.1 rfl rfl HYY.out HG9.out.2 ?_)|go_step|go_upon)
  refine(HCR.out _).mono ?_
  rintro e w3 ⟨rfl,hb3⟩
  have HDB3:=KO (aa HDB2.out hb3)
  clear c2 c4 hb3
  go_wp2_with fail
  go_ret
  exact⟨rfl,HDB3.out⟩
 ·have i1:¬(0:Int)< (H:Int):=by omega
  have hl:=HL.out
  have ho:=HO.out
  rw[if_neg hz]at hl ho
  subst hl ho
  go_upto_region 5 with fail
  repeat (first|go_values|go_skip|go_guarded|(refine gz rfl (.tmp 37) (.tmp 38) _ rfl g h Y HG9.out.1 rfl rfl HYY.out HG9.out.2 ?_)|go_step|go_upon)
  refine(HCR.out _).mono ?_
  rintro e w3 ⟨rfl,hb3⟩
  have HDB3:=KO (aa HDB.out hb3)
  clear c2 c4 hb3
  go_wp2_with fail
  go_ret
  exact⟨rfl,HDB3.out⟩
structure CfI (c:Cfg):Prop where
 m:1<=c.most/\c.most<=16384
 g:4<=c.seg/\c.seg<=64
 l:c.seg<=c.least/\c.least<=256
 d:1<=c.den/\c.den<=64
 o:0<=c.leafLow/\c.leafLow< c.rootLow/\c.rootLow< c.rootHigh/\c.rootHigh< c.leafHigh/\c.leafHigh<=c.den
 r:c.den<=2*c.rootHigh
 pg:pow2 c.seg.toNat=true
 pl:pow2 c.least.toNat=true
theorem jv {c:Cfg} (h:lW c=true):CfI c:=by
 unfold lW at h
 simp only[Lm]at h
 obtain⟨⟨⟨hb,hb'⟩,hc⟩,-⟩:=h
 simp only[iH,jm,mi,gU,List.all_cons,List.all_nil,id,Lm,decide_eq_true_eq,Bool.and_true]at hb hb' hc
 obtain⟨hx1,hx2,hx3,hx4,⟨⟨hx5,hx6⟩,hx7⟩,⟨⟨hx8,hx9⟩,hx10⟩,hx11,hx12⟩:=hb
 obtain⟨hy1,hy2,hy3,hy4,hy5⟩:=hb'
 exact⟨⟨hx3,hx4⟩,⟨hx5,hx6⟩,⟨hx8,hx9⟩,⟨hx11,hx12⟩,⟨hy1,hy2,hy3,hy4,hy5⟩,hc.1,hx7,hx10⟩
def Am (c:Cfg):Nat:=fO c.most.toNat c.den.toNat c.rootHigh.toNat c.least.toNat
theorem yS {c:Cfg} (h:CfI c):TakeS c c.most.toNat c.den.toNat c.rootHigh.toNat c.least.toNat:=by
 have h1:=h.m;have h2:=h.g;have h3:=h.l;have h4:=h.d;have h5:=h.o;have h6:=h.r
 constructor <;> omega
def uh (c:Cfg) (n:Nat):Bool:=gU n c.least (Am c)
def aM (c:Cfg) (n:Nat):Nat:=Lx (n/c.seg.toNat)
theorem FM:∀n:Nat,n<=300->∀g,g<=64->pow2 n=true->pow2 g=true->g<=n->n=g*2 ^ Lx (n/g):=by decide+kernel
theorem aR {c:Cfg} {n:Nat} (hc:CfI c) (hn:n<=300) (h:uh c n=true):c.least<=(n:Int)/\pow2 n=true/\n=c.seg.toNat*2 ^ aM c n/\aM c n<=6/\c.seg.toNat<=n:=by
 unfold uh gU at h
 simp only[Lm,decide_eq_true_eq,Mk]at h
 obtain⟨⟨h1,-⟩,h3⟩:=h
 have h4:=hc.l;have h5:=hc.g
 have h6:=FM n hn c.seg.toNat (by omega) h3 hc.pg (by omega)
 refine⟨h1,h3,h6,?_,by omega⟩
 unfold aM
 by_cases h7:Lx (n/c.seg.toNat)<=6
 ·exact h7
 ·have h8:2 ^ 7<=2 ^ Lx (n/c.seg.toNat):=Lj (n:=2) (by decide) (by omega)
  have h9:=MH (show 4<=c.seg.toNat by omega) h8
  omega
theorem iD {w:World} {g:Nat} {c:Cfg} (h:Blk w g 24 c.row):g< w.heap.size/\w.cell? ⟨g,0,none⟩=some (.int .u8 c.tag)/\w.cell? ⟨g,1,none⟩=some (.int .i64 c.most)/\w.cell? ⟨g,2,none⟩=some (.int .i64 c.seg)/\w.cell? ⟨g,3,none⟩=some (.int .i64 c.least)/\w.cell? ⟨g,4,none⟩=some (.int .i64 c.den)/\w.cell? ⟨g,5,none⟩=some (.int .i64 c.leafLow)/\w.cell? ⟨g,6,none⟩=some (.int .i64 c.rootLow)/\w.cell? ⟨g,7,none⟩=some (.int .i64 c.rootHigh)/\w.cell? ⟨g,8,none⟩=some (.int .i64 c.leafHigh):=
 ⟨h.lt,h.cell 0,h.cell 1,h.cell 2,h.cell 3,h.cell 4,h.cell 5,h.cell 6,h.cell 7,h.cell 8⟩
theorem xn (w:World) (c:Cfg):∃W,w.alloc (.cells c.row 24)=W/\Below w.heap.size w W/\Blk W w.heap.size 24 c.row:=⟨_,rfl,(KR _ _).alloc (KS _) _,Blk.new _ _ _⟩
theorem uN (c:Cfg) (n:Nat) (w:World) (hk:lW c=true) (hn:n<=300):
  Calls prog 197 #[.agg c.row,.int .i64 (n:Nat)] w fun r w'=>r= .returned (.tuple #[.int .i64 (if uh c n=true then(aM c n:Nat)else 0:Int),.int .i64 (if uh c n=true then 0 else 2)])/\Below w.heap.size w w':=by
 have hc:=jv hk
 have hch:=fun W=>mM c W
 rw[show iP c=0 from by unfold iP;rw[if_pos hk]]at hch
 have htk:=fun W=>uP c _ _ _ _ W (yS hc)
 rw[Int.toNat_of_nonneg (by have:=hc.m;omega)]at htk
 change ∀W,Calls _ _ _ W (fun r w'=>r= .returned (.int .i64 (Am c:Nat))/\_)at htk
 have hpw:=fun W=>(mV (n:Int) c.least (Am c) W (by intro _;omega)).mono (R':=fun r w'=>r= .returned (.bool (uh c n))/\Below W.heap.size W w') (fun r w' h=>⟨h.1,h.2 ▸ KR _ _⟩)
 have hht:uh c n=true->∀W,Calls prog 208 #[.agg c.row,.int .i64 (n:Nat)] W fun r w'=>r= .returned (.int .i64 (aM c n:Nat))/\Below W.heap.size W w':=fun hi W=>qX c n c.seg.toNat W (by have:=hc.g;omega) (by omega) (by have:=hc.g;omega) (aR hc hn hi).2.2.2.2
 obtain⟨C,hC⟩:∃C,Am c=C:=⟨_,rfl⟩
 obtain⟨Z,hZ⟩:∃C,uh c n=C:=⟨_,rfl⟩
 obtain⟨H,hH⟩:∃C,aM c n=C:=⟨_,rfl⟩
 rw[hC]at htk hpw
 rw[hZ]at hpw hht ⊢
 rw[hH]at hht ⊢
 have HT:=KO htk
 have HP:=KO hpw
 have HH:=KO hht
 have HCH:=KO hch
 obtain⟨W0,hW0,hb0,b0⟩:=xn w c
 have HW0:=KO hW0
 have HB0:=KO hb0
 have HC0:=KO b0
 clear hW0 hb0 hC hZ hH htk hpw hht hch hc hk hn
 obtain⟨i0,q0,q1,q2,q3,q4,q5,q6,q7,q8⟩:=iD b0
 clear b0
 go_enter func197,ntmps197
 go_upto_region 1 with fail
 rw[HW0.out]
 go_wp2_with fail
 refine(HCH.out _).mono ?_
 rintro e w1 ⟨rfl,hb1⟩
 have HB1:=KO (aa HB0.out hb1)
 have bC1:=HC0.out.below hb1 HC0.out.lt
 have HC1:=KO bC1
 clear hb1 q0 q1 q2 q3 q4 q5 q6 q7 q8 i0 HW0 HB0 HC0
 obtain⟨i0,q0,q1,q2,q3,q4,q5,q6,q7,q8⟩:=iD bC1
 clear bC1
 go_upto_region 4 with fail
 go_region_held3 (fun w'=>(∀bq jq,bq< w1.heap.size->w'.cell? ⟨bq,jq,none⟩=w1.cell? ⟨bq,jq,none⟩)/\(∀bq jq,bq< w1.heap.size->w'.frozen? ⟨bq,jq,none⟩=w1.frozen? ⟨bq,jq,none⟩)/\w1.heap.size<=w'.heap.size/\Below w1.heap.size w1 w') ((with_reducible first|exact SB.init|exact SB.init0|exact SB.alloc _ (by assumption)|exact SB.allocD _ (by assumption)|exact SB.below (by assumption) (by assumption)|assumption))
  (first
   |(go_at_call 209;refine(HT.out _).mono ?_;rintro e21 v21 ⟨rfl,hv21⟩;have hl21:=SB.le hv21 (by assumption);obtain⟨hc21,hz21,hs21⟩:=dE hv21)
   |(go_at_call 207;refine(HP.out _).mono ?_;rintro e22 v22 ⟨rfl,hv22⟩;have hl22:=SB.le hv22 (by assumption);obtain⟨hc22,hz22,hs22⟩:=dE hv22)
   |fail "no arm")
 all_goals
  rename_i hq
  have hb2:=SB.bel hq
  have HB2:=KO (aa HB1.out hb2)
  have bC2:=HC1.out.below hb2 HC1.out.lt
  clear hb2 hq hc21 hz21 hs21 hc22 hz22 hs22 q0 q1 q2 q3 q4 q5 q6 q7 q8 i0 hv21 hv22
  obtain⟨i0,q0,q1,q2,q3,q4,q5,q6,q7,q8⟩:=iD bC2
  clear bC2
  cases Z with
  |false=>
   go_wp2_with fail
   refine KV (v:= .tuple #[.int .i64 0,.int .i64 2]) (by simp[results,results197,go_sem]) rfl ?_
   exact⟨rfl,HB2.out⟩
  |true=>
   go_wp2_with fail
   refine(HH.out (by first|rfl|trivial) _).mono ?_
   rintro e w3 ⟨rfl,hb3⟩
   have HB3:=KO (aa HB2.out hb3)
   clear hb3 q0 q1 q2 q3 q4 q5 q6 q7 q8 i0
   go_wp2_with fail
   refine KV (v:= .tuple #[.int .i64 H,.int .i64 0]) (by simp[results,results197,go_sem]) rfl ?_
   exact⟨rfl,HB3.out⟩
theorem sV (c:Cfg) (n h m:Nat) (w:World) (hk:lW c=true) (hn:n<=300) (hi:uh c n=true) (hh:h<=aM c n) (hm:m<=c.seg.toNat*2 ^ h):
  Calls prog 215 #[.agg c.row,.int .i64 (n:Nat),.int .i64 (h:Nat),.int .i64 (m:Nat)] w fun r w'=>r= .returned (.tuple #[.int .i64 (aM c n:Nat),.int .i64 0])/\Below w.heap.size w w':=by
 have hc:=jv hk
 have hH6:=(aR hc hn hi).2.2.2.1
 have hhi:=fun W=>uN c n W hk hn
 rw[if_pos hi,if_pos hi]at hhi
 obtain⟨g,hg⟩:∃g:Nat,c.seg.toNat=g:=⟨_,rfl⟩
 have hgi:c.seg=(g:Int):=by have:=hc.g;omega
 have hg6:g<=64:=by have:=hc.g;omega
 rw[hg]at hm
 have hY0:g*2 ^ h<=64*128:=MH hg6 (dP (by omega))
 obtain⟨Y,hY⟩:∃Y,g*2 ^ h=Y:=⟨_,rfl⟩
 rw[hY]at hY0 hm
 obtain⟨H,hH⟩:∃C,aM c n=C:=⟨_,rfl⟩
 rw[hH]at hhi hH6 hh ⊢
 have HHI:=KO hhi
 have HY:=KO (show g*2 ^ h=Y/\h< 64/\Y<=1000000 from⟨hY,by omega,by omega⟩)
 have i1:¬(h:Int)< 0:=by omega
 have i2:¬(H:Int)< (h:Int):=by omega
 have i3:¬(m:Int)< 0:=by omega
 have i4:¬(Y:Int)< (m:Int):=by omega
 obtain⟨W0,hW0,hb0,b0⟩:=xn w c
 have HW0:=KO hW0
 have HB0:=KO hb0
 have HC0:=KO b0
 have HGI:=KO hgi
 clear hW0 hb0 hg hgi hg6 hY hH hc hk hn hi hH6 hhi hY0 hm hh
 obtain⟨i0,q0,q1,q2,q3,q4,q5,q6,q7,q8⟩:=iD b0
 clear b0
 go_enter func215,ntmps215
 go_upto_region 1 with fail
 rw[HW0.out]
 go_wp2_with fail
 refine(HHI.out _).mono ?_
 rintro e w1 ⟨rfl,hb1⟩
 have HB1:=KO (aa HB0.out hb1)
 have bC1:=HC0.out.below hb1 HC0.out.lt
 clear hb1 q0 q1 q2 q3 q4 q5 q6 q7 q8 i0 HW0 HB0 HC0
 have q2:w1.cell? ⟨w.heap.size,2,none⟩=some (.int .i64 (g:Int)):=(bC1.cell 2).trans (by rw[<-HGI.out];rfl)
 clear bC1
 have j1:decide ((h:Int)< 0)=false:=decide_eq_false (by omega)
 have j2:decide (H< h)=false:=decide_eq_false (by omega)
 have j3:decide ((m:Int)< 0)=false:=decide_eq_false (by omega)
 have j4:decide (Y< m)=false:=decide_eq_false (by omega)
 go_upto_region 4 with fail
 repeat (first|go_values|go_skip|(refine GN (.tmp 35) (.tmp 36) _ rfl g h Y HY.out.2.1 rfl rfl HY.out.1 HY.out.2.2 ?_)|go_guarded|go_step|go_upon)
 refine KV (v:= .tuple #[.int .i64 H,.int .i64 0]) (by simp[results,results215,go_sem]) rfl ?_
 exact⟨rfl,HB1.out⟩
def lZ (c:Cfg) (n h m:Nat):Bool:=decide ((m:Int)*Ci (aM c n) ((c.den.toNat:Nat):Int)<=((c.seg.toNat*2 ^ h:Nat):Int)*nU (aM c n) h c.leafHigh c.rootHigh)
def gI (c:Cfg) (n h m:Nat):Bool:=decide ((n:Int)=c.least)||decide (((c.seg.toNat*2 ^ h:Nat):Int)*nU (aM c n) h c.leafLow c.rootLow<=((m+1:Nat):Int)*Ci (aM c n) ((c.den.toNat:Nat):Int))
theorem JA (x y:Int):decide (zg (x-y)<=0)=decide (x<=y):=by
 unfold zg
 by_cases h:x<=y
 ·rw[decide_eq_true h,if_neg (by omega)];split <;> rfl
 ·rw[decide_eq_false h,if_pos (by omega)];rfl
theorem JS (x y:Int):decide (0<=zg (x-y))=decide (y<=x):=by
 unfold zg
 by_cases h:y<=x
 ·rw[decide_eq_true h];split
  ·rfl
  ·rw[if_neg (by omega)];rfl
 ·rw[decide_eq_false h,if_neg (by omega),if_pos (by omega)];rfl
theorem Eg (c:Cfg) (n h m:Nat) (w:World) (hk:lW c=true) (hn:n<=300) (hi:uh c n=true) (hh:h<=aM c n) (hm:m<=c.seg.toNat*2 ^ h):
  Calls prog 201 #[.agg c.row,.int .i64 (n:Nat),.int .i64 (h:Nat),.int .i64 (m:Nat)] w fun r w'=>r= .returned (.tuple #[.bool (lZ c n h m),.int .i64 0])/\Below w.heap.size w w':=by
 have hc:=jv hk
 have hH6:=(aR hc hn hi).2.2.2.1
 have hm8:m<=64*64:=KY hm (MH (by have:=hc.g;omega) (Lj (n:=2) (j:=6) (by decide) (by omega)))
 have hm9:m<=300:=by
  have h1:=(aR hc hn hi).2.2.1
  have h2:c.seg.toNat*2 ^ h<=c.seg.toNat*2 ^ aM c n:=ME _ (Lj (n:=2) (by decide) hh)
  omega
 have hask:=fun W=>sV c n h m W hk hn hi hh hm
 have hden:=fun W=>pI c c.seg.toNat c.den.toNat (aM c n) h m c.leafHigh c.rootHigh W (by have:=hc.g;omega) (by have:=hc.d;omega) (by have:=hc.g;omega) (by have:=hc.d;omega) (by omega) hh (by omega) (by have:=hc.o;have:=hc.d;omega) (by have:=hc.o;have:=hc.d;omega)
 have hcmp:=JA (((m:Nat):Int)*Ci (aM c n) ((c.den.toNat:Nat):Int)) (((c.seg.toNat*2 ^ h:Nat):Int)*nU (aM c n) h c.leafHigh c.rootHigh)
 have hR:lZ c n h m=decide ((m:Int)*Ci (aM c n) ((c.den.toNat:Nat):Int)<=((c.seg.toNat*2 ^ h:Nat):Int)*nU (aM c n) h c.leafHigh c.rootHigh):=rfl
 obtain⟨S,hS⟩:∃S,zg (((m:Nat):Int)*Ci (aM c n) ((c.den.toNat:Nat):Int)-((c.seg.toNat*2 ^ h:Nat):Int)*nU (aM c n) h c.leafHigh c.rootHigh)=S:=⟨_,rfl⟩
 rw[hS]at hden hcmp
 rw[<-hcmp]at hR
 rw[hR]
 obtain⟨H,hH⟩:∃C,aM c n=C:=⟨_,rfl⟩
 rw[hH]at hask hden
 have HAS:=KO hask
 have HDE:=KO hden
 obtain⟨W0,hW0,hb0,b0⟩:=xn w c
 have HW0:=KO hW0
 have HB0:=KO hb0
 have HC0:=KO b0
 clear hW0 hb0 hask hden hR hcmp hS hH hc hk hn hi hh hm hH6 hm8
 obtain⟨i0,q0,q1,q2,q3,q4,q5,q6,q7,q8⟩:=iD b0
 clear b0
 go_enter func201,ntmps201
 go_upto_region 1 with fail
 rw[HW0.out]
 go_wp2_with fail
 refine(HAS.out _).mono ?_
 rintro e w1 ⟨rfl,hb1⟩
 have HB1:=KO (aa HB0.out hb1)
 have bC1:=HC0.out.below hb1 HC0.out.lt
 clear hb1 q0 q1 q2 q3 q4 q5 q6 q7 q8 i0 HW0 HB0 HC0
 obtain⟨i0,q0,q1,q2,q3,q4,q5,q6,q7,q8⟩:=iD bC1
 clear bC1
 go_wp2_with fail
 refine(HDE.out _).mono ?_
 rintro e w2 ⟨rfl,hb2⟩
 have HB2:=KO (aa HB1.out hb2)
 clear hb2 q0 q1 q2 q3 q4 q5 q6 q7 q8 i0
 go_wp2_with fail
 refine KV (v:= .tuple #[.bool (decide (S<=0)),.int .i64 0]) (by simp[results,results201,go_sem]) rfl ?_
 exact⟨rfl,HB2.out⟩
theorem xV (c:Cfg) (n h m:Nat) (w:World) (hk:lW c=true) (hn:n<=300) (hi:uh c n=true) (hh:h<=aM c n) (hm:m<=c.seg.toNat*2 ^ h):
  Calls prog 202 #[.agg c.row,.int .i64 (n:Nat),.int .i64 (h:Nat),.int .i64 (m:Nat)] w fun r w'=>r= .returned (.tuple #[.bool (gI c n h m),.int .i64 0])/\Below w.heap.size w w':=by
 have hc:=jv hk
 have hH6:=(aR hc hn hi).2.2.2.1
 have hm8:m<=64*64:=KY hm (MH (by have:=hc.g;omega) (Lj (n:=2) (j:=6) (by decide) (by omega)))
 have hm9:m<=300:=by
  have h1:=(aR hc hn hi).2.2.1
  have h2:c.seg.toNat*2 ^ h<=c.seg.toNat*2 ^ aM c n:=ME _ (Lj (n:=2) (by decide) hh)
  omega
 have hask:=fun W=>sV c n h m W hk hn hi hh hm
 have hden:=fun W=>pI c c.seg.toNat c.den.toNat (aM c n) h (m+1) c.leafLow c.rootLow W (by have:=hc.g;omega) (by have:=hc.d;omega) (by have:=hc.g;omega) (by have:=hc.d;omega) (by omega) hh (by omega) (by have:=hc.o;have:=hc.d;omega) (by have:=hc.o;have:=hc.d;omega)
 have hcmp:=JS ((((m+1):Nat):Int)*Ci (aM c n) ((c.den.toNat:Nat):Int)) (((c.seg.toNat*2 ^ h:Nat):Int)*nU (aM c n) h c.leafLow c.rootLow)
 have hR:gI c n h m=(decide ((n:Int)=c.least)||decide (((c.seg.toNat*2 ^ h:Nat):Int)*nU (aM c n) h c.leafLow c.rootLow<=((m+1:Nat):Int)*Ci (aM c n) ((c.den.toNat:Nat):Int))):=rfl
 obtain⟨S,hS⟩:∃S,zg ((((m+1):Nat):Int)*Ci (aM c n) ((c.den.toNat:Nat):Int)-((c.seg.toNat*2 ^ h:Nat):Int)*nU (aM c n) h c.leafLow c.rootLow)=S:=⟨_,rfl⟩
 rw[hS]at hden hcmp
 rw[<-hcmp]at hR
 rw[hR]
 obtain⟨H,hH⟩:∃C,aM c n=C:=⟨_,rfl⟩
 rw[hH]at hask hden
 have HAS:=KO hask
 have HDE:=KO hden
 obtain⟨W0,hW0,hb0,b0⟩:=xn w c
 have HW0:=KO hW0
 have HB0:=KO hb0
 have HC0:=KO b0
 clear hW0 hb0 hask hden hR hcmp hS hH hc hk hn hi hh hm hH6 hm8
 obtain⟨i0,q0,q1,q2,q3,q4,q5,q6,q7,q8⟩:=iD b0
 clear b0
 go_enter func202,ntmps202
 go_upto_region 1 with fail
 rw[HW0.out]
 go_wp2_with fail
 refine(HAS.out _).mono ?_
 rintro e w1 ⟨rfl,hb1⟩
 have HB1:=KO (aa HB0.out hb1)
 have bC1:=HC0.out.below hb1 HC0.out.lt
 clear hb1 q0 q1 q2 q3 q4 q5 q6 q7 q8 i0 HW0 HB0 HC0
 obtain⟨i0,q0,q1,q2,q3,q4,q5,q6,q7,q8⟩:=iD bC1
 clear bC1
 have hwm:IntKind.i64.wrap ((m:Int)+1)=((m+1:Nat):Int):=by rw[KU _ (by omega)];omega
 obtain⟨m1,hm1⟩:∃x,m+1=x:=⟨_,rfl⟩
 rw[hm1]at hwm HDE
 clear hm1 hm9
 by_cases he:(n:Int)=c.least
 ·have he2:decide ((n:Int)=c.least)=true:=decide_eq_true he
  have HE:=KO he2
  go_wp2_with fail
  refine KV (v:= .tuple #[.bool true,.int .i64 0]) (by simp[results,results202,go_sem]) rfl ?_
  exact⟨by rw[HE.out];rfl,HB1.out⟩
 ·have he2:decide ((n:Int)=c.least)=false:=decide_eq_false he
  have HE:=KO he2
  go_wp2_with fail
  refine(HDE.out _).mono ?_
  rintro e w2 ⟨rfl,hb2⟩
  have HB2:=KO (aa HB1.out hb2)
  clear hb2 q0 q1 q2 q3 q4 q5 q6 q7 q8 i0
  go_wp2_with fail
  refine KV (v:= .tuple #[.bool (decide (0<=S)),.int .i64 0]) (by simp[results,results202,go_sem,he]) rfl ?_
  exact⟨by rw[HE.out];rfl,HB2.out⟩
theorem DU:∀k:Nat,k<=9->∀i:Nat,i<=75->bits .andNot .i64 ((i*2 ^ k:Nat):Int) (((2 ^ k:Nat):Int)-1)=((i*2 ^ k:Nat):Int):=by decide+kernel
theorem BO:∀n:Nat,n<=300->pow2 n=true->∃k,k<=8/\n=2 ^ k:=by
 intro n hn h
 unfold pow2 at h
 simp only[Lm,decide_eq_true_eq]at h
 refine⟨Lx n,?_,h.2.symm⟩
 by_cases h1:Lx n<=8
 ·exact h1
 ·have h2:2 ^ 9<=2 ^ Lx n:=Lj (n:=2) (by decide) (by omega)
  omega
theorem yE (g n:Nat) (w:World) (h4:4<=g) (h64:g<=64) (hg:pow2 g=true) (hgn:g<=n) (hn:n<=300) (hp:pow2 n=true):
  Calls prog 226 #[.int .i64 (g:Nat),.int .i64 (n:Nat)] w fun r w'=>r= .returned (.tuple #[.int .i64 (Lx (n/g):Nat),.int .i64 0])/\w'=w:=by
 have p1:=fun W=>iG (g:Int) W (by omega)
 have p2:=fun W=>iG (n:Int) W (by omega)
 rw[Mk,hg]at p1
 rw[Mk,hp]at p2
 have hd1:0< n/g:=Nat.div_pos hgn (by omega)
 have hd2:n/g<=n:=Nat.div_le_self n g
 have hq:(n:Int).tdiv (g:Int)=((n/g:Nat):Int):=by rw[Int.tdiv_eq_ediv_of_nonneg (by omega)];exact(Int.natCast_ediv n g).symm
 have hz:¬(g:Int)=0:=by omega
 obtain⟨Q,hQ⟩:∃Q,n/g=Q:=⟨_,rfl⟩
 rw[hQ]at hq hd1 hd2 ⊢
 have hw:IntKind.i64.wrap (Q:Int)=(Q:Int):=KU _ (by omega)
 have HD:=KO (fun W=>oQ Q W hd1 (by omega))
 have P1:=KO p1
 have P2:=KO p2
 have i1:¬(g:Int)< 4:=by omega
 have i2:¬(64:Int)< (g:Int):=by omega
 have i3:¬(n:Int)< (g:Int):=by omega
 have i4:¬(65536:Int)< (n:Int):=by omega
 clear p1 p2 hQ hd1 hd2 hp hg h4 h64 hn hgn
 go_enter func226,ntmps226
 go_wp2_with fail
 refine(P1.out _).mono ?_
 rintro e w1 ⟨rfl,rfl⟩
 go_wp2_with fail
 refine(P2.out _).mono ?_
 rintro e w1 ⟨rfl,rfl⟩
 go_wp2_with fail
 refine(HD.out _).mono ?_
 rintro e w1 ⟨rfl,rfl⟩
 go_wp2_with fail
 refine KV (v:= .tuple #[.int .i64 (Lx Q:Nat),.int .i64 0]) (by simp[results,results226,go_sem]) rfl ?_
 exact⟨rfl,rfl⟩
theorem Bl (k i Y M T:Nat) (w:World) (hk:k<=9) (hi:i<=75) (hY:2 ^ k=Y) (hM:i*Y=M) (hT:M+Y=T) (hb:T<=1000000):
  Calls prog 214 #[.int .i64 (Y:Nat),.int .i64 (M:Nat)] w fun r w'=>r= .returned (.agg #[.int .i64 (M:Nat),.int .i64 (T:Nat)])/\Below w.heap.size w w':=by
 have hq:=DU k hk i hi
 rw[hY,hM]at hq
 have hY1:0< Y:=by rw[<-hY];exact MJ k
 have hw1:IntKind.i64.wrap ((Y:Int)-1)=(Y:Int)-1:=KU _ (by omega)
 have hw2:IntKind.i64.wrap ((M:Int)+(Y:Int))=(T:Int):=by rw[KU _ (by omega)];omega
 have HT:=KO hT
 clear hY hM hT hY1 hb hk hi
 go_enter func214,ntmps214
 go_wp2_with fail
 have hb:Below w.heap.size w (w.alloc (.cells #[.int .i64 (M:Nat),.int .i64 (T:Nat)] 243)):=(KR _ _).alloc (KS _) _
 refine KV (v:= .agg #[.int .i64 (M:Nat),.int .i64 (T:Nat)]) (by simp[results,results214,go_sem]) rfl ?_
 exact⟨rfl,hb⟩
theorem zl (g n:Nat) (w:World) (h4:4<=g) (h64:g<=64) (hg:pow2 g=true) (hgn:g<=n) (hn:n<=300) (hp:pow2 n=true):
  Calls prog 213 #[.int .i64 (g:Nat),.int .i64 (n:Nat),.slice none 0 0] w fun r w'=>r= .returned (.tuple #[.int .i64 (Lx (n/g):Nat),.int .i64 0])/\w'=w:=by
 have HH:=KO (fun W=>yE g n W h4 h64 hg hgn hn hp)
 obtain⟨Q,hQ⟩:∃Q,Lx (n/g)=Q:=⟨_,rfl⟩
 rw[hQ]at HH ⊢
 clear hQ h4 h64 hg hgn hn hp
 go_enter func213,ntmps213
 go_wp2_with fail
 refine(HH.out _).mono ?_
 rintro e w1 ⟨rfl,hw1⟩
 rw[hw1]
 clear hw1 w1
 go_wp2_with fail
 go_loopw [23] (fun i wr=>i= .int .i64 0/\wr=w) (fun _ _=>0)
 case atStart=>exact⟨rfl,rfl⟩
 case round=>
  obtain⟨rfl,rfl⟩:=hrel
  go_wp2_with fail
  refine KV (v:= .tuple #[.int .i64 (Q:Nat),.int .i64 0]) (by simp[results,results213,go_sem]) rfl ?_
  exact⟨rfl,rfl⟩
def wL (Y k:Nat):List Value:=(Lt k).flatMap fun i=>[nv (i*Y),nv (i*Y+Y)]
theorem ow (Y k:Nat):wL Y (k+1)=wL Y k++[nv (k*Y),nv (k*Y+Y)]:=by unfold wL;rw[List.range_succ,L9];simp
theorem Fz:(prog.info? 243).map (fun i=>(i.zero,i.size,i.bytes))=some (some (.agg #[.int .i64 0,.int .i64 0]),2,16):=by kernel_rfl
theorem Iw (g n h K Y:Nat) (w:World) (h4:4<=g) (h64:g<=64) (hg:pow2 g=true) (hgn:g<=n) (hn:n<=300) (hp:pow2 n=true) (hh:h<=Lx (n/g)) (hY:g*2 ^ h=Y) (hK:K*Y=n):
  Calls prog 200 #[.int .i64 (g:Nat),.int .i64 (n:Nat),.int .i64 (h:Nat)] w fun r w'=>∃A c,r= .returned (.tuple #[.slice A K c,.int .i64 0])/\w'.ownsRow w.heap.size 243 2 (.slice A K c) K (wL Y K)/\Below w.heap.size w w':=by
 obtain⟨ti0,hi,hz0,hz1,hz2⟩:=info_parts Fz
 have HI:=KO (KW hi (KW hz0 (KW hz1 hz2)))
 have HH:=KO (fun W=>zl g n W h4 h64 hg hgn hn hp)
 obtain⟨k,hk,hgk⟩:=BO g (by omega) hg
 obtain⟨m,hm,hnm⟩:=BO n hn hp
 have hY1:0< Y:=by rw[<-hY];exact Nat.mul_pos (by omega) (MJ h)
 have hK1:K≠0:=fun h0=>by rw[h0]at hK;omega
 have hYn:Y<=n:=by rw[<-hK];exact Nat.le_mul_of_pos_left _ (by omega)
 have hY4:4<=Y:=by rw[<-hY];exact KY h4 (Nat.le_mul_of_pos_right _ (MJ h))
 have hYk:2 ^ (k+h)=Y:=by rw[Nat.pow_add,<-hgk,hY]
 have hkh:k+h<=9:=by
  by_cases hc:k+h<=9
  ·exact hc
  ·have h2:2 ^ 10<=2 ^ (k+h):=Lj (n:=2) (by decide) (by omega)
   omega
 have hK75:K<=75:=by have h2:K*4<=K*Y:=ME _ hY4;omega
 have har:=fun i (hi:i< K) W=>Bl (k+h) i Y (i*Y) (i*Y+Y) W hkh (by omega) hYk rfl rfl (by have:=LH Y (show i+1<=K by omega);rw[ML,Mo]at this;omega)
 have HAR:=KO har
 have hh6:h< 64:=by omega
 obtain⟨Q,hQ⟩:∃Q,Lx (n/g)=Q:=⟨_,rfl⟩
 rw[hQ]at HH hh
 have HY:=KO (show g*2 ^ h=Y/\h< 64/\Y<=1000000 from⟨hY,hh6,by omega⟩)
 have HN:=KO (KW hK (KW hK75 (KW hY1 hn)))
 have j1:decide ((h:Int)< 0)=false:=decide_eq_false (by omega)
 have j2:decide (Q< h)=false:=decide_eq_false (by omega)
 clear hi hz0 hz1 hz2 h4 h64 hg hgn hn hp hY hK hk hgk hm hnm hY1 hK1 hYn hY4 hYk hkh hK75 har hh6 hQ hh
 go_enter func200,ntmps200
 go_wp2_with fail
 refine(HH.out _).mono ?_
 rintro e w1 ⟨rfl,hw1⟩
 rw[hw1]
 clear hw1 w1
 go_wp2_with fail
 go_loopw [6,9] (fun o i wr=>∃(q M:Nat) (A1:Option Addr) (c1:Nat),q<=K/\i= .int .i64 M/\o= .slice A1 q c1/\Hid (M=q*Y)/\Hid (wr.ownsRow w.heap.size 243 2 (.slice A1 q c1) q (wL Y q))/\Hid (Below w.heap.size w wr)) (fun _ i _=>n-(intOf i).toNat)
 case atStart=>exact⟨0,0,none,0,K8 _,rfl,rfl,by show _=_;omega,World.ownsRow_nil _ _ _ _,KR _ _⟩
 case round=>
  obtain⟨q,M,A1,c1,hq,rfl,rfl,HM,HO,HB⟩:=hrel
  have hm3:=HM.out
  by_cases hlt:q< K
  ·have hMn:M< n:=by
    have h1:=HN.out.1
    have h2:=LH Y (show q+1<=K by omega)
    rw[ML,Mo]at h2
    have:=HN.out.2.2.1
    omega
   have i1:(M:Int)< (n:Int):=by omega
   have hY9:=HY.out.2.2
   have hM9:M+Y<=n:=by
    have h1:=HN.out.1
    have h2:=LH Y (show q+1<=K by omega)
    rw[ML,Mo]at h2
    omega
   have hw2:IntKind.i64.wrap ((M:Int)+(Y:Int))=((M+Y:Nat):Int):=by rw[KU _ (by have:=HN.out.2.2.2;omega)];omega
   obtain⟨T,hT⟩:∃T,M+Y=T:=⟨_,rfl⟩
   have har:=HAR.out q hlt
   rw[<-hm3,hT]at har
   rw[hT]at hw2 hM9
   have HAQ:=KO har
   have hrs:=ow Y q
   rw[<-hm3,hT]at hrs
   have HRS:=KO hrs
   have HT:=KO (show T=(q+1)*Y by rw[ML,Mo,<-hm3,hT])
   have hq9:q<=75:=by have:=HN.out.2.1;omega
   have HQL:=KO (show q+1<=K/\n-T< n-M by have:=HN.out.2.2.1;exact⟨hlt,by omega⟩)
   clear hm3 hMn hY9 har hrs hT hq hlt
   go_wp2_with (refine gz rfl (.tmp 35) (.tmp 36) _ rfl g h Y HY.out.2.1 rfl rfl HY.out.1 HY.out.2.2 ?_)
   refine(HAQ.out _).mono ?_
   rintro e w1 ⟨rfl,hb1⟩
   have HO1:=KO (own_below HO.out hb1)
   have hB1:=aa HB.out hb1
   have HB1:=KO hB1
   have HSZ:=KO hB1.size
   clear hb1 hB1 i1
   go_wp2_with (first
    |(at_builtin;refine ag _ rfl (.tmp 34) (.tmp 40) _ rfl w.heap.size 243 ti0 _ 2 16 underlying240 HI.out.1 HI.out.2.1 HI.out.2.2.1 HI.out.2.2.2 rfl (by omega) (.slice A1 q c1) _ _ rfl (HO1.out.alloc _) _ 1 _ [nv M,nv T] rfl ((Blk.new _ _ _).sl 0 _ (by intro j u hu;simpa[nv]using hu)) (by simp) (by simp[nv,Value.oneCell']) (by unfold maxLen;omega) (by omega) (by have:=HSZ.out;simp;omega) ?_;intro v2 w2 hown2 hg2;obtain⟨A2,c2,rfl,-,-⟩:=ak hown2)
    |(refine gz rfl (.tmp 30) (.tmp 31) _ rfl g h Y HY.out.2.1 rfl rfl HY.out.1 HY.out.2.2 ?_))
   have hb2:Below w.heap.size w w2:=(HB1.out.alloc HSZ.out _).grown hg2 (by have:=HSZ.out;simp;omega) (fun q hq=>(HO1.out.lt q hq).1)
   have HO2:=KO hown2
   have HB2:=KO hb2
   clear hown2 hg2 hb2
   go_roundw
   case rel=>exact⟨q+1,T,A2,c2,HQL.out.1,rfl,rfl,HT.out,by show World.ownsRow _ _ _ _ _ _ _;rw[HRS.out];exact HO2.out,HB2.out⟩
   case measure=>have:=HQL.out.2;simp[intOf];omega
  ·obtain rfl:q=K:=by omega
   have i1:¬(M:Int)< (n:Int):=by have:=HN.out.1;omega
   clear hm3 hq hlt
   go_wp2_with fail
   refine KV (v:= .tuple #[.slice A1 q c1,.int .i64 0]) (by simp[results,results200,go_sem]) rfl ?_
   exact⟨A1,c1,rfl,HO.out,HB.out⟩
end Go.Proofs.YtpbmbjjfdpkhbaaGreat
