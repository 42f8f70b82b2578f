/- part of the proof -/
import Derived.Deep.CutRange
import Derived.Deep.MidRow
import Derived.Test.YtpbmbjjfdpkhbaaGreatZw13
import Derived.Test.YtpbmbjjfdpkhbaaGreatZw13b
import Derived.Test.YtpbmbjjfdpkhbaaGreatZw10
import Derived.Test.YtpbmbjjfdpkhbaaGreatZw5
import Derived.Test.YtpbmbjjfdpkhbaaGreatZw11
import Derived.Deep.Cut
namespace Go.Proofs.YtpbmbjjfdpkhbaaGreat
open Go Go.RowKit
set_option linter.all false
set_option maxRecDepth 100000
set_option maxHeartbeats 32000000
open Go.Proofs.Tryz
open Below renaming refl->KR
open Bool renaming and_eq_true->Lm,false_eq_true->Mj
open Go renaming all_oneCell_toArray->Ld,bodyPost_ret->KV,run_loadVar_mid->MW,wpList_load_mid->Mi,wp_load_mid->Mw
open Go.Lib renaming hid->KO
open Go.Value renaming oneCell'->K5
open List renaming getElem?_cons_succ->La,getElem?_cons_zero->Lb,range->Lt,range'->MK,setIfInBounds_toArray->Lg,set_cons_succ->LK,set_cons_zero->LC,size_toArray->Ll
open List.range renaming loop->MF
open Nat renaming le_refl->KS,le_succ->Mm,le_trans->KY,reduceAdd->LD,reduceBEq->MZ,reduceEqDiff->Ms,reduceLT->M8,reduceSub->LF
theorem af:(prog.info? 42).map (·.size)=some 46:=by kernel_rfl
theorem bu {P:Program} {fn:Func} {tmps:Array Value} {t:TypeId} {a g:Nat} {w:World} {v:Value} (hf:fn.results=#[.cell a t]) (ha:tmps.getD a undef= .pointer (some ⟨g,0,none⟩)) (hl:(loadVar t ⟨g,0,none⟩).run P w= .ok v w):(results fn tmps).run P w= .ok v w:=by
 have ha2:tmps[a]?.getD undef= .pointer (some ⟨g,0,none⟩):=by rw[<-ha];simp
 unfold results
 simp[hf,ha2,asAddr,Sem.run_bind,hl]
structure MvLike (m n:Mv):Prop where
 tag:n.tag=m.tag
 ver:n.ver=m.ver
 pc:n.pc=m.pc
 ps:SsLike m.ps n.ps
 bc:n.bc=m.bc
 bs:SsLike m.bs n.bs
 bx:IxLike m.bx n.bx
 lc:n.lc=m.lc
 lR:aB n.lR=aB m.lR
 ln:n.ln=m.ln
def nR (m:Mv) (w:World) (r:Ending) (w':World):Prop:=∃n:Mv,r= .returned (.agg n.row)/\MvLike m n/\Held (fun k=>k< w.heap.size) (fun W=>MvAt W n) w'/\Below w.heap.size w w'
theorem OwnRs.mod2 {Sx:Nat->Prop} {w w':World} {B0:Nat} {B:Option Addr} {c:Nat} {Rs:List Rm} (h:OwnRs w B0 B c Rs) (hm:Mod Sx w w') (hn:∀k,B0<=k->¬Sx k):OwnRs w' B0 B c Rs:=⟨di h.row hm hn,fun r hr=>di (h.ent r hr) hm hn⟩
theorem zw (m:Mv) (w:World) (hs:MvAt w m) (ho:MvOk m):Calls prog 6 #[.agg m.row] w (nR m w):=by
 obtain⟨W0,hW0,hb0,b0,br0⟩:=yN w 42 m.row 42 #[.int .u8 0,.int .u64 0,.int .u8 0,.int .i64 0,.int .i64 0,.int .i64 0,.int .i64 0,.int .i64 0,.int .i64 0,.int .i64 0,.int .i64 0,.int .i64 0,.slice none 0 0,.slice none 0 0,.slice none 0 0,.slice none 0 0,.int .u64 0,.int .u8 0,.int .i64 0,.int .i64 0,.int .i64 0,.int .i64 0,.int .i64 0,.int .i64 0,.int .i64 0,.int .i64 0,.int .i64 0,.slice none 0 0,.slice none 0 0,.slice none 0 0,.slice none 0 0,.int .u64 0,.int .i64 0,.slice none 0 0,.slice none 0 0,.int .u8 0,.int .i64 0,.int .i64 0,.int .i64 0,.int .i64 0,.int .i64 0,.int .i64 0,.int .i64 0,.int .i64 0,.slice none 0 0,.int .u64 0]
 have q0:W0.cell? ⟨w.heap.size,0,none⟩=some (.int .u8 m.tag):=b0.cell 0
 have q1:W0.cell? ⟨w.heap.size,1,none⟩=some (.int .u64 m.ver):=b0.cell 1
 have lg:=b0.lt
 have HTP:=KO (fun W (h:Below w.heap.size w W)=>rW m.pc m.ps W (hs.pma.below h) ho.pma)
 have HTB:=KO (fun W (h:Below w.heap.size w W)=>zm m.bc m.bs m.bx W (hs.cob.below h) (hs.ix.below h) ho.cob ho.ix)
 have HTL:=KO (fun W (h:Below w.heap.size w W)=>zn m.lB m.lR m.lk m.lc m.ln W (RunsAt.below hs.log h) (gG ho.log).1 (gG ho.log).2)
 have HW0:=KO hW0
 have HB0:=KO hb0
 have HC0:=KO b0
 have HR0:=KO br0
 clear hW0 hb0 b0 br0 hs ho
 go_enter func6,ntmps6
 go_upto_region 1 with fail
 rw[HW0.out]
 refine aK (by kernel_rfl) 14 [.v [] fun v=>v 0= .pointer (some ⟨w.heap.size,0,none⟩),.v [0] fun v=>v 1= .int .u8 m.tag,.v [] fun v=>v 2= .pointer (some ⟨w.heap.size,1,none⟩),.v [2] fun v=>v 3= .int .u64 m.ver,.v [] fun v=>v 4= .pointer (some ⟨w.heap.size,2,none⟩),.v [4] fun v=>v 5= .agg (cB m.pc m.ps),.w [5] (fun v W=>∃s2:Ss,v 6= .agg (cB m.pc s2)/\SsLike m.ps s2/\Held (fun k=>k< W0.heap.size) (fun V=>SsAt V s2) W) (fun _ W W' hb h=>let ⟨x,p,q,r⟩:=h;⟨x,p,q,r.ext hb⟩),.v [] fun v=>v 7= .pointer (some ⟨w.heap.size,17,none⟩),.v [7] fun v=>v 8= .agg (cK m.bc m.bs m.bx),.w [8] (fun v W=>∃(s4:Ss) (x2:Ix),v 9= .agg (cK m.bc s4 x2)/\(SsLike m.bs s4/\IxLike m.bx x2)/\Held (fun k=>k< W0.heap.size) (fun V=>SsAt V s4/\IxAt V x2) W) (fun _ W W' hb h=>let ⟨x,y,p,q,r⟩:=h;⟨x,y,p,q,r.ext hb⟩),.v [] fun v=>v 10= .pointer (some ⟨w.heap.size,35,none⟩),.v [10] fun v=>v 11= .agg (eH m.lc m.lB m.lR.length m.lk m.ln),.w [11] (fun v W=>∃(B2:Option Addr) (k2:Nat) (R2:List Rm),v 12= .agg (eH m.lc B2 R2.length k2 m.ln)/\aB R2=aB m.lR/\Held (fun k=>k< W0.heap.size) (fun V=>RunsAt V B2 R2) W) (fun _ W W' hb h=>let ⟨x,y,z,p,q,r⟩:=h;⟨x,y,z,p,q,r.ext hb⟩),.w [1,3,6,9,12] (fun v W=>∃n:Mv,v 13= .agg n.row/\MvLike m n/\Held (fun k=>k< W0.heap.size) (fun V=>MvAt V n) W) (fun _ W W' hb h=>let ⟨x,p,q,r⟩:=h;⟨x,p,q,r.ext hb⟩)] [13] rfl rfl (by kernel_rfl) (by kernel_rfl) ⟨_,fun v=>by simp only[ou,Act.put,Lg,LC,LK];rfl,?_⟩
 simp only[iQ,oZ,dO,dV,gT,nC,dX,Lt,MF,MK,Lb,La,TEnt.v,TEnt.w,RB,RM,MZ,M8,decide_true,decide_false,Mj,Ms,LD,LF,if_true,if_false,↓reduceIte,Ll,List.length_cons,List.length_nil]
 refine⟨?_,?_,?_,?_,?_,?_,?_,?_,?_,?_,?_,?_,?_,?_,fun v W hb=>?_⟩
 all_goals try intro v W K hb hK
 all_goals have hc:=(aO hb).1
 all_goals try ((first|(intro a;rw[a]at hK ⊢)|skip);go_wp2_with fail;exact hK _ _ (KR _ _) rfl)
 ·intro h4
  rw[h4]at hK ⊢
  refine Mw 31 (.tmp 7) rfl w.heap.size 2 rfl _ _ (ae (HC0.out.below hb HC0.out.lt) 2 15 rfl) underlying31 rfl bK ?_
  exact hK _ _ (KR _ _) rfl
 ·intro h5
  rw[h5]at hK ⊢
  go_wp2_with (go_at_call 26;refine(HTP.out _ (aa HB0.out hb)).mono ?_;rintro e1 W1 ⟨s3,rfl,hl2,hh2,hb1⟩)
  exact hK _ _ hb1 ⟨s3,rfl,hl2,Held.join hh2 (Mod.refl _ _) (fun k _ hx=>Nat.lt_of_lt_of_le hx hb.size)⟩
 ·intro h7
  rw[h7]at hK ⊢
  refine Mw 35 (.tmp 10) rfl w.heap.size 17 rfl _ _ (ae (HC0.out.below hb HC0.out.lt) 17 18 rfl) underlying35 rfl iy ?_
  exact hK _ _ (KR _ _) rfl
 ·intro h8
  rw[h8]at hK ⊢
  go_wp2_with (go_at_call 27;refine(HTB.out _ (aa HB0.out hb)).mono ?_;rintro e1 W1 ⟨s3,x3,rfl,hl2,hl3,hh2,hb1⟩)
  exact hK _ _ hb1 ⟨s3,x3,rfl,⟨hl2,hl3⟩,Held.join hh2 (Mod.refl _ _) (fun k _ hx=>Nat.lt_of_lt_of_le hx hb.size)⟩
 ·intro h10
  rw[h10]at hK ⊢
  refine Mw 40 (.tmp 13) rfl w.heap.size 35 rfl _ _ (ae (HC0.out.below hb HC0.out.lt) 35 11 rfl) underlying40 rfl iq ?_
  exact hK _ _ (KR _ _) rfl
 ·intro h11
  rw[h11]at hK ⊢
  go_wp2_with (go_at_call 28;refine(HTL.out _ (aa HB0.out hb)).mono ?_;rintro e1 W1 ⟨B3,k3,R3,rfl,hl2,ho2,hb1⟩)
  exact hK _ _ hb1 ⟨B3,k3,R3,rfl,hl2,fun w2 hm=>(ho2.mod2 hm (fun k hk hx=>Nat.lt_irrefl _ (Nat.lt_of_lt_of_le hx (KY hb.size hk)))).runsAt⟩
 ·intro h1 h3 h6 h9 h12
  obtain⟨s2,h6,l6,q6⟩:=h6
  obtain⟨s4,x2,h9,l9,q9⟩:=h9
  obtain⟨B2,k2,R2,h12,l12,q12⟩:=h12
  rw[h1,h3,h6,h9,h12]at hK ⊢
  go_wp2_with fail
  exact hK _ _ (KR _ _) ⟨⟨m.tag,m.ver,m.pc,s2,m.bc,s4,x2,m.lc,B2,R2,k2,m.ln⟩,rfl,⟨rfl,rfl,rfl,l6,rfl,l9.1,l9.2,rfl,l12,rfl⟩,fun V h=>⟨q6 V h,(q9 V h).1,(q9 V h).2,q12 V h⟩⟩
 intro h13
 obtain⟨n,h13,ql,qh⟩:=h13
 rw[h13]
 have hg:=HR0.out.below hb HR0.out.lt
 have hn:=Blk.setCells n.row.toList 0 _ _ hg
 refine wpOp_step rfl fun K hK=>?_
 refine aF rfl 42 (.tmp 2) (.tmp 16) rfl (w.heap.size+1) 0 n.row rfl rfl (aY hg 0 46 (by simp)) af (Ld (by simp[K5])) ?_
 refine hK _ _ ?_
 have HB3:=KO (aS (Mm _) n.row.toList 0 _ (aa HB0.out hb))
 have HMZ:=KO (aL (S:=fun k=>k< W0.heap.size) HR0.out.lt n.row.toList 0 W)
 obtain⟨V,hV⟩:∃V,W.setCells (w.heap.size+1) 0 n.row.toList=V:=⟨_,rfl⟩
 rw[hV]at HB3 HMZ hn ⊢
 have HN2:=KO (show Blk V (w.heap.size+1) 42 n.row by simpa[dn]using hn)
 clear hV hn hg hK h13 K q0 q1
 try simp only[oZ]
 go_wp2_with fail
 refine KV (v:= .agg n.row) (bu results6 rfl (MW V (w.heap.size+1) 0 42 n.row.toList _ (ae HN2.out 0 46 rfl) underlying42 rfl af)) rfl ?_
 exact⟨n,rfl,ql,Held.join (X:=fun k=>k< W0.heap.size) (fun W2 h2=>qh W2 (HMZ.out.trans h2)) (Mod.refl _ _) (fun k _ hx=>Nat.lt_of_lt_of_le hx HB0.out.size),HB3.out⟩
abbrev aI:Cfg:=⟨0,0,0,0,0,0,0,0,0⟩
abbrev fU:Ss:=⟨0,[],[],[],[],0,none,none,none,none,0,0,0,0⟩
abbrev nD:Ix:=⟨0,[],[],none,none,0,0⟩
def fA (m:Mv):Mv:=⟨m.tag,m.ver,m.pc,m.ps,aI,fU,nD,aI,none,[],0,0⟩
def fu (m:Mv):Mv:=⟨m.tag,m.ver,aI,fU,m.bc,m.bs,m.bx,aI,none,[],0,0⟩
def fw (m:Mv):Mv:=⟨m.tag,m.ver,aI,fU,aI,fU,nD,m.lc,m.lB,m.lR,m.lk,m.ln⟩
def fq (m:Mv):Mv:=if m.tag=1 then fA m else if m.tag=2 then fu m else fw m
def kJ (m:Mv):Cfg:=if m.tag=1 then m.pc else if m.tag=2 then m.bc else m.lc
def eD (m:Mv):Int:=if m.tag=1 then fV m.pc m.ps else if m.tag=2 then fI m.bc m.bs m.bx else jw m.lc (aB m.lR)
def aV (m:Mv):Int:=if m.tag=1∨m.tag=2∨m.tag=3 then(if eD m=0 then(if (kJ m).tag=m.tag then(if fM m (fq m)=true then 0 else 8)else 8)else eD m)else 2
def allM (m:Mv):List Pr:=if m.tag=1 then bE m.ps else if m.tag=2 then bE m.bs else jK (aB m.lR)
theorem lD (s t:Ss):iR s t=true↔(s.seg=t.seg/\s.laid=t.laid/\s.ws=t.ws/\s.ks=t.ks/\s.vs=t.vs/\s.cs=t.cs):=by
 unfold iR;simp only[Lm,decide_eq_true_eq]
 constructor
 ·rintro⟨⟨⟨⟨⟨a,b⟩,c⟩,d⟩,e⟩,f⟩;exact⟨a,b,c,d,e,f⟩
 ·rintro⟨a,b,c,d,e,f⟩;exact⟨⟨⟨⟨⟨a,b⟩,c⟩,d⟩,e⟩,f⟩
theorem oz (s t:Ix):iE s t=true↔(s.lev=t.lev/\s.mx=t.mx/\s.ct=t.ct):=by
 unfold iE;simp only[Lm,decide_eq_true_eq]
 exact⟨fun⟨⟨a,b⟩,c⟩=>⟨a,b,c⟩,fun⟨a,b,c⟩=>⟨⟨a,b⟩,c⟩⟩
theorem oD (m n:Mv):fM m n=true↔(m.tag=n.tag/\m.ver=n.ver/\(m.pc=n.pc/\iR m.ps n.ps=true)/\(m.bc=n.bc/\iR m.bs n.bs=true/\iE m.bx n.bx=true)/\(m.lc=n.lc/\m.ln=n.ln/\aB m.lR=aB n.lR)):=by
 unfold fM mg mZ mg rY Jn
 simp only[Lm,decide_eq_true_eq]
 constructor
 ·rintro⟨⟨⟨⟨a,b⟩,c,d⟩,⟨⟨e,f⟩,g⟩⟩,h,i,j⟩;exact⟨a,b,⟨c,d⟩,⟨e,f,g⟩,h,i,j⟩
 ·rintro⟨a,b,⟨c,d⟩,⟨e,f,g⟩,h,i,j⟩;exact⟨⟨⟨⟨a,b⟩,c,d⟩,⟨⟨e,f⟩,g⟩⟩,h,i,j⟩
theorem rT (s t:Ss):iR s t=iR t s:=by
 rw[Bool.eq_iff_iff,lD,lD]
 exact⟨fun⟨a,b,c,d,e,f⟩=>⟨a.symm,b.symm,c.symm,d.symm,e.symm,f.symm⟩,fun⟨a,b,c,d,e,f⟩=>⟨a.symm,b.symm,c.symm,d.symm,e.symm,f.symm⟩⟩
theorem Ad (s t:Ix):iE s t=iE t s:=by
 rw[Bool.eq_iff_iff,oz,oz]
 exact⟨fun⟨a,b,c⟩=>⟨a.symm,b.symm,c.symm⟩,fun⟨a,b,c⟩=>⟨a.symm,b.symm,c.symm⟩⟩
theorem jR (m n:Mv):fM m n=fM n m:=by
 rw[Bool.eq_iff_iff,oD,oD,rT m.ps,rT m.bs,Ad m.bx]
 exact⟨fun⟨a,b,⟨c,d⟩,⟨e,f,g⟩,h,i,j⟩=>⟨a.symm,b.symm,⟨c.symm,d⟩,⟨e.symm,f,g⟩,h.symm,i.symm,j.symm⟩,fun⟨a,b,⟨c,d⟩,⟨e,f,g⟩,h,i,j⟩=>⟨a.symm,b.symm,⟨c.symm,d⟩,⟨e.symm,f,g⟩,h.symm,i.symm,j.symm⟩⟩
theorem qV {a n:Ss} (h:SsLike a n) (s:Ss):iR s n=iR s a:=by unfold iR;rw[h.seg,h.laid,h.ws,h.ks,h.vs,h.cs]
theorem zB {a n:Ix} (h:IxLike a n) (s:Ix):iE s n=iE s a:=by unfold iE;rw[h.lev,h.mx,h.ct]
theorem jU {a n:Mv} (h:MvLike a n) (m:Mv):fM m n=fM m a:=by
 unfold fM mZ mg
 rw[h.tag,h.ver,h.pc,h.bc,h.lc,h.lR,h.ln,qV h.ps,qV h.bs,zB h.bx]
theorem kT (w:World):SsAt w fU:=⟨.inl rfl,.inl rfl,.inl rfl,.inl rfl⟩
theorem wH (w:World):IxAt w nD:=⟨.inl rfl,.inl rfl⟩
theorem wu:SsOk fU:=⟨fun x (hx:x∈([]:List Nat))=>absurd hx List.not_mem_nil,by decide,by decide,by decide,by decide⟩
theorem Gs:IxOk nD:=⟨by decide,by decide⟩
theorem gN:SsLike fU fU:=⟨rfl,rfl,rfl,rfl,rfl,rfl,KS _⟩
theorem og:IxLike nD nD:=⟨rfl,rfl,rfl⟩
theorem oo (w:World):RunsAt w none []:=⟨.inl rfl,fun r hr=>absurd hr List.not_mem_nil⟩
theorem uQ {m:Mv} (h:MvOk m):MvOk (fA m):=⟨h.pma,wu,Gs,by show([]:List Rm).length+tot (aB [])<=300;decide⟩
theorem uW {m:Mv} (h:MvOk m):MvOk (fu m):=⟨wu,h.cob,h.ix,by show([]:List Rm).length+tot (aB [])<=300;decide⟩
theorem uD {m:Mv} (h:MvOk m):MvOk (fw m):=⟨wu,wu,Gs,h.log⟩
theorem Ec {m:Mv} (h:MvOk m):MvOk (fq m):=by unfold fq;split;exact uQ h;split;exact uW h;exact uD h
theorem mU {a n:Mv} (h:MvLike a n) (k:MvOk a):MvOk n:=⟨⟨by rw[h.ps.ws];exact k.pma.w64,by rw[h.ps.ws];exact k.pma.wl,by rw[h.ps.ks];exact k.pma.kl,by rw[h.ps.vs];exact k.pma.vl,by rw[h.ps.cs];exact k.pma.cl⟩,⟨by rw[h.bs.ws];exact k.cob.w64,by rw[h.bs.ws];exact k.cob.wl,by rw[h.bs.ks];exact k.cob.kl,by rw[h.bs.vs];exact k.cob.vl,by rw[h.bs.cs];exact k.cob.cl⟩,⟨by rw[h.bx.mx];exact k.ix.ml,by rw[h.bx.ct];exact k.ix.cl⟩,by
 have h1:n.lR.length=a.lR.length:=by have:=congrArg List.length h.lR;simpa[aB]using this
 rw[h1,h.lR];exact k.log⟩
theorem ah {P:Program} {ops:Array Oper} {rest:List Oper} {op:Oper} {a:Act} {w:World} {Q:Exit->Act->World->Prop} (hgd:op.guard=none) (ty:TypeId) (x y:Operand) (ho:op.op= .store ty x y) (b o:Nat) (cells:Array Value) (hx:a.eval x= .pointer (some ⟨b,o,none⟩)) (hy:a.eval y= .agg cells) {t:TypeId} {row:Array Value} (hb:Blk w b t row) (hn:o+cells.size<=row.size) (hi:(P.info? ty).map (·.size)=some cells.size) (h1:cells.all (·.oneCell')=true)
  (h:∀W',Mod (fun k=>k=b) w W'->Blk W' b t (dn row o cells.toList)->wpList P ops Q rest (a.put op.dst undef) W'):wpList P ops Q (op::rest) a w:=
 wpList_store_mid hgd ty x y ho b o cells hx hy (aY hb o cells.size hn) hi h1 (h _ (aL (S:=fun k=>k=b) rfl _ _ _) (Blk.setCells _ _ _ _ hb))
theorem aj {w:World} {t:TypeId} {row:Array Value} {g:Nat} (hg:w.heap.size=g):Blk (w.alloc (.cells row t)) g t row:=hg ▸ Blk.new w t row
theorem qD:(prog.info? 150).map (·.size)=some 15:=by kernel_rfl
theorem qF:(prog.info? 151).map (·.size)=some 18:=by kernel_rfl
theorem qE:(prog.info? 152).map (·.size)=some 11:=by kernel_rfl
theorem qg (m:Mv) (w:World) (ht:m.tag=1):Calls prog 67 #[.agg m.row] w fun r w'=>r= .returned (.iface 150 (.agg (cB m.pc m.ps)))/\Below w.heap.size w w':=by
 obtain⟨W0,hW0,hb0,b0⟩:=gL w 42 m.row
 have q0:W0.cell? ⟨w.heap.size,0,none⟩=some (.int .u8 1):=by rw[<-ht];exact b0.cell 0
 have HW0:=KO hW0
 have HB0:=KO hb0
 have HP0:=KO b0
 clear hW0 hb0 b0 ht
 go_enter func67,ntmps67
 go_upto_region 1 with fail
 rw[HW0.out]
 go_upto_region 3 with fail
 try dsimp only[]
 repeat (first|refine eX HP0.out 2 underlying31 bK rfl rfl rfl rfl ?_|go_values|go_skip|go_guarded|go_step|go_upon)
 try go_wp2_with fail
 go_ret
 exact⟨rfl,HB0.out⟩
theorem pJ (m:Mv) (w:World) (ht:m.tag=2):Calls prog 67 #[.agg m.row] w fun r w'=>r= .returned (.iface 151 (.agg (cK m.bc m.bs m.bx)))/\Below w.heap.size w w':=by
 obtain⟨W0,hW0,hb0,b0⟩:=gL w 42 m.row
 have q0:W0.cell? ⟨w.heap.size,0,none⟩=some (.int .u8 2):=by rw[<-ht];exact b0.cell 0
 have HW0:=KO hW0
 have HB0:=KO hb0
 have HP0:=KO b0
 clear hW0 hb0 b0 ht
 go_enter func67,ntmps67
 go_upto_region 1 with fail
 rw[HW0.out]
 go_upto_region 5 with fail
 try dsimp only[]
 repeat (first|refine eX HP0.out 17 underlying35 iy rfl rfl rfl rfl ?_|go_values|go_skip|go_guarded|go_step|go_upon)
 try go_wp2_with fail
 go_ret
 exact⟨rfl,HB0.out⟩
theorem pE (m:Mv) (w:World) (ht:m.tag=3):Calls prog 67 #[.agg m.row] w fun r w'=>r= .returned (.iface 152 (.agg (eH m.lc m.lB m.lR.length m.lk m.ln)))/\Below w.heap.size w w':=by
 obtain⟨W0,hW0,hb0,b0⟩:=gL w 42 m.row
 have q0:W0.cell? ⟨w.heap.size,0,none⟩=some (.int .u8 3):=by rw[<-ht];exact b0.cell 0
 have HW0:=KO hW0
 have HB0:=KO hb0
 have HP0:=KO b0
 clear hW0 hb0 b0 ht
 go_enter func67,ntmps67
 go_upto_region 1 with fail
 rw[HW0.out]
 go_upto_region 7 with fail
 try dsimp only[]
 repeat (first|refine eX HP0.out 35 underlying40 iq rfl rfl rfl rfl ?_|go_values|go_skip|go_guarded|go_step|go_upon)
 try go_wp2_with fail
 go_ret
 exact⟨rfl,HB0.out⟩
theorem xg (m:Mv) (w:World) (h1:m.tag≠1) (h2:m.tag≠2) (h3:m.tag≠3):Calls prog 67 #[.agg m.row] w fun r w'=>r= .returned .nilIface/\Below w.heap.size w w':=by
 obtain⟨W0,hW0,hb0,b0⟩:=gL w 42 m.row
 have q0:W0.cell? ⟨w.heap.size,0,none⟩=some (.int .u8 m.tag):=b0.cell 0
 have HW0:=KO hW0
 have HB0:=KO hb0
 clear hW0 hb0 b0
 go_enter func67,ntmps67
 go_upto_region 1 with fail
 rw[HW0.out]
 go_wp2_with fail
 go_ret
 exact⟨rfl,HB0.out⟩
theorem qo (c:Cfg) (s:Ss) (w:World) (hs:SsAt w s) (ho:SsOk s) (hcap:s.cs.length<=s.cc):Calls prog 185 #[.agg (cB c s)] w fun r w'=>r= .returned (.int .i64 (fV c s))/\Below w.heap.size w w':=by
 obtain⟨R,hR⟩:∃R,fV c s=R:=⟨_,rfl⟩
 have hc:=fun W (h:Below w.heap.size w W)=>kr c s W (hs.below h) ho hcap
 rw[hR]at hc ⊢
 have HC:=KO hc
 obtain⟨W0,hW0,hb0,b0⟩:=gL w 150 (cB c s)
 have HW0:=KO hW0
 have HB0:=KO hb0
 have HP0:=KO b0
 clear hW0 hb0 b0 hc hR
 go_enter func185,ntmps185
 go_upto_region 1 with fail
 rw[HW0.out]
 try dsimp only[]
 repeat (first|refine eX HP0.out 0 underlying150 qD rfl rfl rfl rfl ?_|go_values|go_skip|go_guarded|go_step|go_upon)
 refine(HC.out _ HB0.out).mono ?_
 rintro e w1 ⟨rfl,hb1⟩
 have HB1:=KO (aa HB0.out hb1)
 clear hb1
 go_wp2_with fail
 go_ret
 exact⟨rfl,HB1.out⟩
theorem GV {P:Prop} (h:P:=by
 first|(have mz:=mk0;clear mz;obtain⟨W0,hW0⟩:∃W,(w.alloc (.cells (cB c s) 150)).alloc (.cells #[.int .u8 0,.int .i64 0,.int .i64 0,.int .i64 0,.int .i64 0,.int .i64 0,.int .i64 0,.int .i64 0,.int .i64 0] 24)=W:=⟨_,rfl⟩)|(have mz:=mk1;clear mz;obtain⟨W0,hW0⟩:∃W,(w.alloc (.cells (cK c s x) 151)).alloc (.cells #[.int .u8 0,.int .i64 0,.int .i64 0,.int .i64 0,.int .i64 0,.int .i64 0,.int .i64 0,.int .i64 0,.int .i64 0] 24)=W:=⟨_,rfl⟩)|(have mz:=mk2;clear mz;obtain⟨W0,hW0⟩:∃W,(w.alloc (.cells (eH c B Rs.length k n) 152)).alloc (.cells #[.int .u8 0,.int .i64 0,.int .i64 0,.int .i64 0,.int .i64 0,.int .i64 0,.int .i64 0,.int .i64 0,.int .i64 0] 24)=W:=⟨_,rfl⟩)
 have hb0:Below w.heap.size w W0:=by rw[<-hW0];exact((KR _ _).alloc (KS _) _).alloc (by simp) _
 first|(have mz:=mk0;clear mz;have b0:Blk W0 w.heap.size 150 (cB c s):=by rw[<-hW0];exact(Blk.new _ _ _).alloc _)|(have mz:=mk1;clear mz;have b0:Blk W0 w.heap.size 151 (cK c s x):=by rw[<-hW0];exact(Blk.new _ _ _).alloc _)|(have mz:=mk2;clear mz;have b0:Blk W0 w.heap.size 152 (eH c B Rs.length k n):=by rw[<-hW0];exact(Blk.new _ _ _).alloc _)
 have br:Blk W0 (w.heap.size+1) 24 #[.int .u8 0,.int .i64 0,.int .i64 0,.int .i64 0,.int .i64 0,.int .i64 0,.int .i64 0,.int .i64 0,.int .i64 0]:=by rw[<-hW0];exact aj (by simp)
 have HW0:=KO hW0
 have HB0:=KO hb0
 have HP0:=KO b0
 have HR0:=KO br
 clear hW0 hb0 b0 br
 first|go_enter func186,ntmps186|go_enter func233,ntmps233|go_enter func252,ntmps252
 go_upto_region 1 with fail
 rw[HW0.out]
 try dsimp only[]
 first|(have mz:=mk1;clear mz;repeat (first|refine eX HP0.out 0 underlying24 bB rfl rfl rfl rfl ?_|(refine ah rfl 24 (.tmp 2) (.tmp 5) rfl (w.heap.size+1) 0 #[.int .u8 c.tag,.int .i64 c.most,.int .i64 c.seg,.int .i64 c.least,.int .i64 c.den,.int .i64 c.leafLow,.int .i64 c.rootLow,.int .i64 c.rootHigh,.int .i64 c.leafHigh] rfl rfl HR0.out (by simp) bB (Ld (by simp[K5])) ?_;intro W1 hm1 hk1)|go_values|go_skip|go_guarded|go_step|go_upon))|(repeat (first|refine eX HP0.out 0 underlying24 bB rfl rfl rfl rfl ?_|(refine ah rfl 24 (.tmp 2) (.tmp 4) rfl (w.heap.size+1) 0 #[.int .u8 c.tag,.int .i64 c.most,.int .i64 c.seg,.int .i64 c.least,.int .i64 c.den,.int .i64 c.leafLow,.int .i64 c.rootLow,.int .i64 c.rootHigh,.int .i64 c.leafHigh] rfl rfl HR0.out (by simp) bB (Ld (by simp[K5])) ?_;intro W1 hm1 hk1)|go_values|go_skip|go_guarded|go_step|go_upon))
 have HM1:=KO hm1
 have HK1:=KO (show Blk W1 (w.heap.size+1) 24 #[.int .u8 c.tag,.int .i64 c.most,.int .i64 c.seg,.int .i64 c.least,.int .i64 c.den,.int .i64 c.leafLow,.int .i64 c.rootLow,.int .i64 c.rootHigh,.int .i64 c.leafHigh]by simpa[dn]using hk1)
 clear hm1 hk1
 try go_wp2_with fail
 first|refine KV (v:= .agg #[.int .u8 c.tag,.int .i64 c.most,.int .i64 c.seg,.int .i64 c.least,.int .i64 c.den,.int .i64 c.leafLow,.int .i64 c.rootLow,.int .i64 c.rootHigh,.int .i64 c.leafHigh]) (bu results186 rfl (MW W1 (w.heap.size+1) 0 24 [.int .u8 c.tag,.int .i64 c.most,.int .i64 c.seg,.int .i64 c.least,.int .i64 c.den,.int .i64 c.leafLow,.int .i64 c.rootLow,.int .i64 c.rootHigh,.int .i64 c.leafHigh] _ (ae HK1.out 0 9 rfl) underlying24 rfl bB)) rfl ?_|refine KV (v:= .agg #[.int .u8 c.tag,.int .i64 c.most,.int .i64 c.seg,.int .i64 c.least,.int .i64 c.den,.int .i64 c.leafLow,.int .i64 c.rootLow,.int .i64 c.rootHigh,.int .i64 c.leafHigh]) (bu results233 rfl (MW W1 (w.heap.size+1) 0 24 [.int .u8 c.tag,.int .i64 c.most,.int .i64 c.seg,.int .i64 c.least,.int .i64 c.den,.int .i64 c.leafLow,.int .i64 c.rootLow,.int .i64 c.rootHigh,.int .i64 c.leafHigh] _ (ae HK1.out 0 9 rfl) underlying24 rfl bB)) rfl ?_|refine KV (v:= .agg #[.int .u8 c.tag,.int .i64 c.most,.int .i64 c.seg,.int .i64 c.least,.int .i64 c.den,.int .i64 c.leafLow,.int .i64 c.rootLow,.int .i64 c.rootHigh,.int .i64 c.leafHigh]) (bu results252 rfl (MW W1 (w.heap.size+1) 0 24 [.int .u8 c.tag,.int .i64 c.most,.int .i64 c.seg,.int .i64 c.least,.int .i64 c.den,.int .i64 c.leafLow,.int .i64 c.rootLow,.int .i64 c.rootHigh,.int .i64 c.leafHigh] _ (ae HK1.out 0 9 rfl) underlying24 rfl bB)) rfl ?_
 exact⟨rfl,HB0.out.trans (HM1.out.below HB0.out.size (fun b hb=>by have hb:b=w.heap.size+1:=hb;omega))⟩):P:=h
theorem rG (c:Cfg) (s:Ss) (w:World):Calls prog 186 #[.agg (cB c s)] w fun r w'=>r= .returned (.agg #[.int .u8 c.tag,.int .i64 c.most,.int .i64 c.seg,.int .i64 c.least,.int .i64 c.den,.int .i64 c.leafLow,.int .i64 c.rootLow,.int .i64 c.rootHigh,.int .i64 c.leafHigh])/\Below w.heap.size w w':=by
 have mk0:=()
 exact GV
theorem qm (c:Cfg) (s:Ss) (x:Ix) (w:World):Calls prog 233 #[.agg (cK c s x)] w fun r w'=>r= .returned (.agg #[.int .u8 c.tag,.int .i64 c.most,.int .i64 c.seg,.int .i64 c.least,.int .i64 c.den,.int .i64 c.leafLow,.int .i64 c.rootLow,.int .i64 c.rootHigh,.int .i64 c.leafHigh])/\Below w.heap.size w w':=by
 have mk1:=()
 exact GV
theorem qz (c:Cfg) (B:Option Addr) (Rs:List Rm) (k:Nat) (n:Int) (w:World) (hB:RunsAt w B Rs) (hT:tot (aB Rs)<=1000000) (hl:Rs.length<=1000000):Calls prog 251 #[.agg (eH c B Rs.length k n)] w fun r w'=>r= .returned (.int .i64 (jw c (aB Rs)))/\Below w.heap.size w w':=by
 obtain⟨R,hR⟩:∃R,jw c (aB Rs)=R:=⟨_,rfl⟩
 have hc:=fun W (h:Below w.heap.size w W)=>sF B Rs k c n W (RunsAt.below hB h) hT hl
 rw[hR]at hc ⊢
 have HC:=KO hc
 obtain⟨W0,hW0,hb0,b0⟩:=gL w 152 (eH c B Rs.length k n)
 have HW0:=KO hW0
 have HB0:=KO hb0
 have HP0:=KO b0
 clear hW0 hb0 b0 hc hR
 go_enter func251,ntmps251
 go_upto_region 1 with fail
 rw[HW0.out]
 try dsimp only[]
 repeat (first|refine eX HP0.out 0 underlying152 qE rfl rfl rfl rfl ?_|go_values|go_skip|go_guarded|go_step|go_upon)
 refine(HC.out _ HB0.out).mono ?_
 rintro e w1 ⟨rfl,hb1⟩
 have HB1:=KO (aa HB0.out hb1)
 clear hb1
 go_wp2_with fail
 go_ret
 exact⟨rfl,HB1.out⟩
theorem tJ (c:Cfg) (B:Option Addr) (Rs:List Rm) (k:Nat) (n:Int) (w:World):Calls prog 252 #[.agg (eH c B Rs.length k n)] w fun r w'=>r= .returned (.agg #[.int .u8 c.tag,.int .i64 c.most,.int .i64 c.seg,.int .i64 c.least,.int .i64 c.den,.int .i64 c.leafLow,.int .i64 c.rootLow,.int .i64 c.rootHigh,.int .i64 c.leafHigh])/\Below w.heap.size w w':=by
 have mk2:=()
 exact GV
theorem wP (m:Mv) (w:World) (ht:m.tag=1) (hs:MvAt w m) (ho:MvOk m):Calls prog 81 #[.int .u64 m.ver,.iface 150 (.agg (cB m.pc m.ps))] w (nR (fA m) w):=by
 have ta1:∀(v:Value) (W:World),(Instr.typeAssert (.iface 150 v) 127 150 true).run prog W= .ok (.tuple #[v,.bool true]) W:=fun v W=>by kernel_rfl
 have htw:=fun W (h:Below w.heap.size w W)=>ru m.pc m.ps W (hs.pma.below h) ho.pma
 have HTW:=KO htw
 have HT:=KO ht
 obtain⟨W0,hW0,hb0,b0⟩:=gL w 42 #[.int .u8 0,.int .u64 0,.int .u8 0,.int .i64 0,.int .i64 0,.int .i64 0,.int .i64 0,.int .i64 0,.int .i64 0,.int .i64 0,.int .i64 0,.int .i64 0,.slice none 0 0,.slice none 0 0,.slice none 0 0,.slice none 0 0,.int .u64 0,.int .u8 0,.int .i64 0,.int .i64 0,.int .i64 0,.int .i64 0,.int .i64 0,.int .i64 0,.int .i64 0,.int .i64 0,.int .i64 0,.slice none 0 0,.slice none 0 0,.slice none 0 0,.slice none 0 0,.int .u64 0,.int .i64 0,.slice none 0 0,.slice none 0 0,.int .u8 0,.int .i64 0,.int .i64 0,.int .i64 0,.int .i64 0,.int .i64 0,.int .i64 0,.int .i64 0,.int .i64 0,.slice none 0 0,.int .u64 0]
 have HW0:=KO hW0
 have HB0:=KO hb0
 have HR0:=KO b0
 clear hW0 hb0 b0 hs ho htw ht
 go_enter func81,ntmps81
 go_upto_region 1 with fail
 rw[HW0.out]
 try dsimp only[]
 repeat (first|(refine ah rfl 42 (.tmp 5) (.tmp 10) rfl W0.heap.size 0 (Mv.row ⟨0,m.ver,aI,fU,aI,fU,nD,aI,none,[],0,0⟩) rfl rfl (aj (by simp)) (by simp) af (Ld (by simp[K5])) ?_;intro W1 hm1 hk1)|(refine ah rfl 150 (.tmp 6) (.tmp 14) rfl W1.heap.size 0 (cB m.pc m.ps) rfl rfl (aj rfl) (by simp) qD (Ld (by simp[K5])) ?_;intro W2 hm2 hk2)|refine eX (show Blk W2 W1.heap.size 150 (cB m.pc m.ps)by simp[dn]at hk2;exact hk2) 0 underlying150 qD rfl rfl rfl rfl ?_|go_values|go_skip|go_guarded|go_step|go_upon)
 have hk1':Blk W1 W0.heap.size 42 (Mv.row ⟨0,m.ver,aI,fU,aI,fU,nD,aI,none,[],0,0⟩):=by simp[dn]at hk1;exact hk1
 have hb1:Below W0.heap.size W0 W1:=((KR _ _).alloc (KS _) _).trans (hm1.below (by simp) (fun k hk=>Nat.le_of_eq (Eq.symm hk)))
 have HB1:=KO (aa HB0.out hb1)
 have HR1:=KO (HR0.out.below hb1 HR0.out.lt)
 have HV1:=KO hk1'
 have HL1:=KO HR0.out.lt
 clear hk1 hk1' hm1 hb1 HB0 HR0
 obtain⟨gv,hgv⟩:∃g,W0.heap.size=g:=⟨_,rfl⟩
 rw[hgv]at HV1 HL1 ⊢
 clear hgv
 have hb2:Below W1.heap.size W1 W2:=((KR _ _).alloc (KS _) _).trans (hm2.below (by simp) (fun k hk=>Nat.le_of_eq (Eq.symm hk)))
 have HB2:=KO (aa HB1.out hb2)
 have HR2:=KO (HR1.out.below hb2 HR1.out.lt)
 have HV2:=KO (HV1.out.below hb2 HV1.out.lt)
 clear hb2 hm2 hk2 HB1 HR1 HV1
 refine(HTW.out _ HB2.out).mono ?_
 rintro e w3 ⟨s2,rfl,hl2,hh2,hb2⟩
 have HLK:=KO hl2
 have HH:=KO hh2
 have HB3:=KO (aa HB2.out hb2)
 have HR3:=KO (HR2.out.below hb2 HR2.out.lt)
 have HV3:=KO (HV2.out.below hb2 HV2.out.lt)
 have v0:w3.cell? ⟨gv,0,none⟩=some (.int .u8 0):=HV3.out.cell 0
 have r0:w3.frozen? ⟨gv,0,none⟩=false:=HV3.out.frozen 0
 clear hb2 hl2 hh2
 have HN3:=KO (show w.heap.size≠gv by have:=HL1.out;omega)
 try dsimp only[]
 repeat (first|(refine ah rfl 31 (.tmp 18) (.tmp 16) rfl gv 2 (cB m.pc s2) rfl rfl (HV3.out.set_ 0 (.int .u8 1)) (by simp) bK (Ld (by simp[K5])) ?_;intro W4 hm4 hk4)|refine eX (show Blk W4 gv 42 (Mv.row ⟨1,m.ver,m.pc,s2,aI,fU,nD,aI,none,[],0,0⟩)by simp[dn]at hk4;exact hk4) 0 underlying42 af rfl rfl rfl rfl ?_|(refine ah rfl 42 (.tmp 4) (.tmp 33) rfl w.heap.size 0 (Mv.row ⟨1,m.ver,m.pc,s2,aI,fU,nD,aI,none,[],0,0⟩) rfl rfl ((HR3.out.far (p:=⟨gv,0,none⟩) HN3.out _).mod hm4 HN3.out) (by simp) af (Ld (by simp[K5])) ?_;intro W5 hm5 hk5)|go_values|go_skip|go_guarded|go_step|go_upon)
 have HV4:=KO (show Blk W4 gv 42 (Mv.row ⟨1,m.ver,m.pc,s2,aI,fU,nD,aI,none,[],0,0⟩)by simp[dn]at hk4;exact hk4)
 have hm3:Mod (fun b=>b=gv) w3 W4:=((Mod.refl (fun b=>b=gv) w3).setCell (p:=⟨gv,0,none⟩) rfl _).trans hm4
 have HM4:=KO hm3
 clear hk4 hm3 hm4 v0 r0 HV3 HR3
 have HK5:=KO (show Blk W5 w.heap.size 42 (Mv.row ⟨1,m.ver,m.pc,s2,aI,fU,nD,aI,none,[],0,0⟩)by simp[dn]at hk5;exact hk5)
 have HM5:=KO hm5
 clear hk5 hm5
 try go_wp2_with fail
 refine KV (v:= .agg (Mv.row ⟨1,m.ver,m.pc,s2,aI,fU,nD,aI,none,[],0,0⟩)) (bu results81 rfl (MW W5 w.heap.size 0 42 (Mv.row ⟨1,m.ver,m.pc,s2,aI,fU,nD,aI,none,[],0,0⟩).toList _ (ae HK5.out 0 46 rfl) underlying42 rfl af)) rfl ?_
 have hmz:Mod (fun k=>k< W2.heap.size) w3 W5:=(HM4.out.mono (fun b _ hb=>by have hb:b=gv:=hb;have:=HV2.out.lt;show b< W2.heap.size;omega)).trans (HM5.out.mono (fun b _ hb=>by have hb:b=w.heap.size:=hb;have:=HR2.out.lt;show b< W2.heap.size;omega))
 have hbz:Below w.heap.size w W5:=(HB3.out.trans (HM4.out.below HB3.out.size (fun b hb=>by have hb:b=gv:=hb;have:=HL1.out;omega))).trans (HM5.out.below (KY HB3.out.size HM4.out.size) (fun b hb=>by have hb:b=w.heap.size:=hb;omega))
 refine⟨⟨1,m.ver,m.pc,s2,aI,fU,nD,aI,none,[],0,0⟩,rfl,⟨HT.out.symm,rfl,rfl,HLK.out,rfl,gN,og,rfl,rfl,rfl⟩,?_,hbz⟩
 exact Held.join (X:=(fun k=>k< W2.heap.size)) (fun w9 h9=>⟨HH.out w9 (hmz.trans h9),kT w9,wH w9,oo w9⟩) (Mod.refl _ _) (fun k _ hx=>Nat.lt_of_lt_of_le hx HB2.out.size)
theorem wY (m:Mv) (w:World) (ht:m.tag=2) (hs:MvAt w m) (ho:MvOk m):Calls prog 81 #[.int .u64 m.ver,.iface 151 (.agg (cK m.bc m.bs m.bx))] w (nR (fu m) w):=by
 have ta1:∀(v:Value) (W:World),(Instr.typeAssert (.iface 151 v) 127 150 true).run prog W= .ok (.tuple #[.agg (cB aI fU),.bool false]) W:=fun v W=>by kernel_rfl
 have ta2:∀(v:Value) (W:World),(Instr.typeAssert (.iface 151 v) 127 151 true).run prog W= .ok (.tuple #[v,.bool true]) W:=fun v W=>by kernel_rfl
 have htw:=fun W (h:Below w.heap.size w W)=>Br m.bc m.bs m.bx W (hs.cob.below h) (hs.ix.below h) ho.cob ho.ix
 have HTW:=KO htw
 have HT:=KO ht
 obtain⟨W0,hW0,hb0,b0⟩:=gL w 42 #[.int .u8 0,.int .u64 0,.int .u8 0,.int .i64 0,.int .i64 0,.int .i64 0,.int .i64 0,.int .i64 0,.int .i64 0,.int .i64 0,.int .i64 0,.int .i64 0,.slice none 0 0,.slice none 0 0,.slice none 0 0,.slice none 0 0,.int .u64 0,.int .u8 0,.int .i64 0,.int .i64 0,.int .i64 0,.int .i64 0,.int .i64 0,.int .i64 0,.int .i64 0,.int .i64 0,.int .i64 0,.slice none 0 0,.slice none 0 0,.slice none 0 0,.slice none 0 0,.int .u64 0,.int .i64 0,.slice none 0 0,.slice none 0 0,.int .u8 0,.int .i64 0,.int .i64 0,.int .i64 0,.int .i64 0,.int .i64 0,.int .i64 0,.int .i64 0,.int .i64 0,.slice none 0 0,.int .u64 0]
 have HW0:=KO hW0
 have HB0:=KO hb0
 have HR0:=KO b0
 clear hW0 hb0 b0 hs ho htw ht
 go_enter func81,ntmps81
 go_upto_region 1 with fail
 rw[HW0.out]
 try dsimp only[]
 repeat (first|(refine ah rfl 42 (.tmp 5) (.tmp 10) rfl W0.heap.size 0 (Mv.row ⟨0,m.ver,aI,fU,aI,fU,nD,aI,none,[],0,0⟩) rfl rfl (aj (by simp)) (by simp) af (Ld (by simp[K5])) ?_;intro W1 hm1 hk1)|(refine ah rfl 151 (.tmp 7) (.tmp 21) rfl W1.heap.size 0 (cK m.bc m.bs m.bx) rfl rfl (aj rfl) (by simp) qF (Ld (by simp[K5])) ?_;intro W2 hm2 hk2)|refine eX (show Blk W2 W1.heap.size 151 (cK m.bc m.bs m.bx)by simp[dn]at hk2;exact hk2) 0 underlying151 qF rfl rfl rfl rfl ?_|go_values|go_skip|go_guarded|go_step|go_upon)
 have hk1':Blk W1 W0.heap.size 42 (Mv.row ⟨0,m.ver,aI,fU,aI,fU,nD,aI,none,[],0,0⟩):=by simp[dn]at hk1;exact hk1
 have hb1:Below W0.heap.size W0 W1:=((KR _ _).alloc (KS _) _).trans (hm1.below (by simp) (fun k hk=>Nat.le_of_eq (Eq.symm hk)))
 have HB1:=KO (aa HB0.out hb1)
 have HR1:=KO (HR0.out.below hb1 HR0.out.lt)
 have HV1:=KO hk1'
 have HL1:=KO HR0.out.lt
 clear hk1 hk1' hm1 hb1 HB0 HR0
 obtain⟨gv,hgv⟩:∃g,W0.heap.size=g:=⟨_,rfl⟩
 rw[hgv]at HV1 HL1 ⊢
 clear hgv
 have hb2:Below W1.heap.size W1 W2:=((KR _ _).alloc (KS _) _).trans (hm2.below (by simp) (fun k hk=>Nat.le_of_eq (Eq.symm hk)))
 have HB2:=KO (aa HB1.out hb2)
 have HR2:=KO (HR1.out.below hb2 HR1.out.lt)
 have HV2:=KO (HV1.out.below hb2 HV1.out.lt)
 clear hb2 hm2 hk2 HB1 HR1 HV1
 refine(HTW.out _ HB2.out).mono ?_
 rintro e w3 ⟨s2,x2,rfl,hl2,hl3,hh2,hb2⟩
 have HLK:=KO (And.intro hl2 hl3)
 have HH:=KO hh2
 have HB3:=KO (aa HB2.out hb2)
 have HR3:=KO (HR2.out.below hb2 HR2.out.lt)
 have HV3:=KO (HV2.out.below hb2 HV2.out.lt)
 have v0:w3.cell? ⟨gv,0,none⟩=some (.int .u8 0):=HV3.out.cell 0
 have r0:w3.frozen? ⟨gv,0,none⟩=false:=HV3.out.frozen 0
 clear hb2 hl2 hl3 hh2
 have HN3:=KO (show w.heap.size≠gv by have:=HL1.out;omega)
 try dsimp only[]
 repeat (first|(refine ah rfl 35 (.tmp 25) (.tmp 23) rfl gv 17 (cK m.bc s2 x2) rfl rfl (HV3.out.set_ 0 (.int .u8 2)) (by simp) iy (Ld (by simp[K5])) ?_;intro W4 hm4 hk4)|refine eX (show Blk W4 gv 42 (Mv.row ⟨2,m.ver,aI,fU,m.bc,s2,x2,aI,none,[],0,0⟩)by simp[dn]at hk4;exact hk4) 0 underlying42 af rfl rfl rfl rfl ?_|(refine ah rfl 42 (.tmp 4) (.tmp 33) rfl w.heap.size 0 (Mv.row ⟨2,m.ver,aI,fU,m.bc,s2,x2,aI,none,[],0,0⟩) rfl rfl ((HR3.out.far (p:=⟨gv,0,none⟩) HN3.out _).mod hm4 HN3.out) (by simp) af (Ld (by simp[K5])) ?_;intro W5 hm5 hk5)|go_values|go_skip|go_guarded|go_step|go_upon)
 have HV4:=KO (show Blk W4 gv 42 (Mv.row ⟨2,m.ver,aI,fU,m.bc,s2,x2,aI,none,[],0,0⟩)by simp[dn]at hk4;exact hk4)
 have hm3:Mod (fun b=>b=gv) w3 W4:=((Mod.refl (fun b=>b=gv) w3).setCell (p:=⟨gv,0,none⟩) rfl _).trans hm4
 have HM4:=KO hm3
 clear hk4 hm3 hm4 v0 r0 HV3 HR3
 have HK5:=KO (show Blk W5 w.heap.size 42 (Mv.row ⟨2,m.ver,aI,fU,m.bc,s2,x2,aI,none,[],0,0⟩)by simp[dn]at hk5;exact hk5)
 have HM5:=KO hm5
 clear hk5 hm5
 try go_wp2_with fail
 refine KV (v:= .agg (Mv.row ⟨2,m.ver,aI,fU,m.bc,s2,x2,aI,none,[],0,0⟩)) (bu results81 rfl (MW W5 w.heap.size 0 42 (Mv.row ⟨2,m.ver,aI,fU,m.bc,s2,x2,aI,none,[],0,0⟩).toList _ (ae HK5.out 0 46 rfl) underlying42 rfl af)) rfl ?_
 have hmz:Mod (fun k=>k< W2.heap.size) w3 W5:=(HM4.out.mono (fun b _ hb=>by have hb:b=gv:=hb;have:=HV2.out.lt;show b< W2.heap.size;omega)).trans (HM5.out.mono (fun b _ hb=>by have hb:b=w.heap.size:=hb;have:=HR2.out.lt;show b< W2.heap.size;omega))
 have hbz:Below w.heap.size w W5:=(HB3.out.trans (HM4.out.below HB3.out.size (fun b hb=>by have hb:b=gv:=hb;have:=HL1.out;omega))).trans (HM5.out.below (KY HB3.out.size HM4.out.size) (fun b hb=>by have hb:b=w.heap.size:=hb;omega))
 refine⟨⟨2,m.ver,aI,fU,m.bc,s2,x2,aI,none,[],0,0⟩,rfl,⟨HT.out.symm,rfl,rfl,gN,rfl,HLK.out.1,HLK.out.2,rfl,rfl,rfl⟩,?_,hbz⟩
 exact Held.join (X:=(fun k=>k< W2.heap.size)) (fun w9 h9=>⟨kT w9,(HH.out w9 (hmz.trans h9)).1,(HH.out w9 (hmz.trans h9)).2,oo w9⟩) (Mod.refl _ _) (fun k _ hx=>Nat.lt_of_lt_of_le hx HB2.out.size)
theorem xY (m:Mv) (w:World) (ht:m.tag=3) (hs:MvAt w m) (ho:MvOk m):Calls prog 81 #[.int .u64 m.ver,.iface 152 (.agg (eH m.lc m.lB m.lR.length m.lk m.ln))] w (nR (fw m) w):=by
 have ta1:∀(v:Value) (W:World),(Instr.typeAssert (.iface 152 v) 127 150 true).run prog W= .ok (.tuple #[.agg (cB aI fU),.bool false]) W:=fun v W=>by kernel_rfl
 have ta2:∀(v:Value) (W:World),(Instr.typeAssert (.iface 152 v) 127 151 true).run prog W= .ok (.tuple #[.agg (cK aI fU nD),.bool false]) W:=fun v W=>by kernel_rfl
 have ta3:∀(v:Value) (W:World),(Instr.typeAssert (.iface 152 v) 127 152 true).run prog W= .ok (.tuple #[v,.bool true]) W:=fun v W=>by kernel_rfl
 have htw:=fun W (h:Below w.heap.size w W)=>Eb m.lB m.lR m.lk m.lc m.ln W (RunsAt.below hs.log h) (gG ho.log).1 (gG ho.log).2
 have HTW:=KO htw
 have HT:=KO ht
 obtain⟨W0,hW0,hb0,b0⟩:=gL w 42 #[.int .u8 0,.int .u64 0,.int .u8 0,.int .i64 0,.int .i64 0,.int .i64 0,.int .i64 0,.int .i64 0,.int .i64 0,.int .i64 0,.int .i64 0,.int .i64 0,.slice none 0 0,.slice none 0 0,.slice none 0 0,.slice none 0 0,.int .u64 0,.int .u8 0,.int .i64 0,.int .i64 0,.int .i64 0,.int .i64 0,.int .i64 0,.int .i64 0,.int .i64 0,.int .i64 0,.int .i64 0,.slice none 0 0,.slice none 0 0,.slice none 0 0,.slice none 0 0,.int .u64 0,.int .i64 0,.slice none 0 0,.slice none 0 0,.int .u8 0,.int .i64 0,.int .i64 0,.int .i64 0,.int .i64 0,.int .i64 0,.int .i64 0,.int .i64 0,.int .i64 0,.slice none 0 0,.int .u64 0]
 have HW0:=KO hW0
 have HB0:=KO hb0
 have HR0:=KO b0
 clear hW0 hb0 b0 hs ho htw ht
 go_enter func81,ntmps81
 go_upto_region 1 with fail
 rw[HW0.out]
 try dsimp only[]
 repeat (first|(refine ah rfl 42 (.tmp 5) (.tmp 10) rfl W0.heap.size 0 (Mv.row ⟨0,m.ver,aI,fU,aI,fU,nD,aI,none,[],0,0⟩) rfl rfl (aj (by simp)) (by simp) af (Ld (by simp[K5])) ?_;intro W1 hm1 hk1)|(refine ah rfl 152 (.tmp 8) (.tmp 28) rfl W1.heap.size 0 (eH m.lc m.lB m.lR.length m.lk m.ln) rfl rfl (aj rfl) (by simp) qE (Ld (by simp[K5])) ?_;intro W2 hm2 hk2)|refine eX (show Blk W2 W1.heap.size 152 (eH m.lc m.lB m.lR.length m.lk m.ln)by simp[dn]at hk2;exact hk2) 0 underlying152 qE rfl rfl rfl rfl ?_|go_values|go_skip|go_guarded|go_step|go_upon)
 have hk1':Blk W1 W0.heap.size 42 (Mv.row ⟨0,m.ver,aI,fU,aI,fU,nD,aI,none,[],0,0⟩):=by simp[dn]at hk1;exact hk1
 have hb1:Below W0.heap.size W0 W1:=((KR _ _).alloc (KS _) _).trans (hm1.below (by simp) (fun k hk=>Nat.le_of_eq (Eq.symm hk)))
 have HB1:=KO (aa HB0.out hb1)
 have HR1:=KO (HR0.out.below hb1 HR0.out.lt)
 have HV1:=KO hk1'
 have HL1:=KO HR0.out.lt
 clear hk1 hk1' hm1 hb1 HB0 HR0
 obtain⟨gv,hgv⟩:∃g,W0.heap.size=g:=⟨_,rfl⟩
 rw[hgv]at HV1 HL1 ⊢
 clear hgv
 have hb2:Below W1.heap.size W1 W2:=((KR _ _).alloc (KS _) _).trans (hm2.below (by simp) (fun k hk=>Nat.le_of_eq (Eq.symm hk)))
 have HB2:=KO (aa HB1.out hb2)
 have HR2:=KO (HR1.out.below hb2 HR1.out.lt)
 have HV2:=KO (HV1.out.below hb2 HV1.out.lt)
 clear hb2 hm2 hk2 HB1 HR1 HV1
 refine(HTW.out _ HB2.out).mono ?_
 rintro e w3 ⟨B2,k2,R2,rfl,hl2,ho2,hb2⟩
 have HLK:=KO hl2
 have hh2:Held (fun k=>k< W2.heap.size) (fun W=>RunsAt W B2 R2) w3:=fun w2 hm=>(ho2.mod2 hm (fun k hk hx=>by have:k< W2.heap.size:=hx;omega)).runsAt
 have HH:=KO hh2
 have HB3:=KO (aa HB2.out hb2)
 have HR3:=KO (HR2.out.below hb2 HR2.out.lt)
 have HV3:=KO (HV2.out.below hb2 HV2.out.lt)
 have v0:w3.cell? ⟨gv,0,none⟩=some (.int .u8 0):=HV3.out.cell 0
 have r0:w3.frozen? ⟨gv,0,none⟩=false:=HV3.out.frozen 0
 clear hb2 hl2 ho2 hh2
 have HN3:=KO (show w.heap.size≠gv by have:=HL1.out;omega)
 try dsimp only[]
 repeat (first|(refine ah rfl 40 (.tmp 32) (.tmp 30) rfl gv 35 (eH m.lc B2 R2.length k2 m.ln) rfl rfl (HV3.out.set_ 0 (.int .u8 3)) (by simp) iq (Ld (by simp[K5])) ?_;intro W4 hm4 hk4)|refine eX (show Blk W4 gv 42 (Mv.row ⟨3,m.ver,aI,fU,aI,fU,nD,m.lc,B2,R2,k2,m.ln⟩)by simp[dn]at hk4;exact hk4) 0 underlying42 af rfl rfl rfl rfl ?_|(refine ah rfl 42 (.tmp 4) (.tmp 33) rfl w.heap.size 0 (Mv.row ⟨3,m.ver,aI,fU,aI,fU,nD,m.lc,B2,R2,k2,m.ln⟩) rfl rfl ((HR3.out.far (p:=⟨gv,0,none⟩) HN3.out _).mod hm4 HN3.out) (by simp) af (Ld (by simp[K5])) ?_;intro W5 hm5 hk5)|go_values|go_skip|go_guarded|go_step|go_upon)
 have HV4:=KO (show Blk W4 gv 42 (Mv.row ⟨3,m.ver,aI,fU,aI,fU,nD,m.lc,B2,R2,k2,m.ln⟩)by simp[dn]at hk4;exact hk4)
 have hm3:Mod (fun b=>b=gv) w3 W4:=((Mod.refl (fun b=>b=gv) w3).setCell (p:=⟨gv,0,none⟩) rfl _).trans hm4
 have HM4:=KO hm3
 clear hk4 hm3 hm4 v0 r0 HV3 HR3
 have HK5:=KO (show Blk W5 w.heap.size 42 (Mv.row ⟨3,m.ver,aI,fU,aI,fU,nD,m.lc,B2,R2,k2,m.ln⟩)by simp[dn]at hk5;exact hk5)
 have HM5:=KO hm5
 clear hk5 hm5
 try go_wp2_with fail
 refine KV (v:= .agg (Mv.row ⟨3,m.ver,aI,fU,aI,fU,nD,m.lc,B2,R2,k2,m.ln⟩)) (bu results81 rfl (MW W5 w.heap.size 0 42 (Mv.row ⟨3,m.ver,aI,fU,aI,fU,nD,m.lc,B2,R2,k2,m.ln⟩).toList _ (ae HK5.out 0 46 rfl) underlying42 rfl af)) rfl ?_
 have hmz:Mod (fun k=>k< W2.heap.size) w3 W5:=(HM4.out.mono (fun b _ hb=>by have hb:b=gv:=hb;have:=HV2.out.lt;show b< W2.heap.size;omega)).trans (HM5.out.mono (fun b _ hb=>by have hb:b=w.heap.size:=hb;have:=HR2.out.lt;show b< W2.heap.size;omega))
 have hbz:Below w.heap.size w W5:=(HB3.out.trans (HM4.out.below HB3.out.size (fun b hb=>by have hb:b=gv:=hb;have:=HL1.out;omega))).trans (HM5.out.below (KY HB3.out.size HM4.out.size) (fun b hb=>by have hb:b=w.heap.size:=hb;omega))
 refine⟨⟨3,m.ver,aI,fU,aI,fU,nD,m.lc,B2,R2,k2,m.ln⟩,rfl,⟨HT.out.symm,rfl,rfl,gN,rfl,gN,og,rfl,HLK.out,rfl⟩,?_,hbz⟩
 exact Held.join (X:=(fun k=>k< W2.heap.size)) (fun w9 h9=>⟨kT w9,kT w9,wH w9,HH.out w9 (hmz.trans h9)⟩) (Mod.refl _ _) (fun k _ hx=>Nat.lt_of_lt_of_le hx HB2.out.size)
theorem kM {P:Program} {fn:Func} {tmps:Array Value} {t:TypeId} {a b g:Nat} {w:World} {u v:Value} (hf:fn.results=#[.tmp b,.cell a t]) (hb:tmps.getD b undef=u) (ha:tmps.getD a undef= .pointer (some ⟨g,0,none⟩)) (hl:(loadVar t ⟨g,0,none⟩).run P w= .ok v w):(results fn tmps).run P w= .ok (.tuple #[u,v]) w:=by
 have ha2:tmps[a]?.getD undef= .pointer (some ⟨g,0,none⟩):=by rw[<-ha];simp
 have hb2:tmps[b]?.getD undef=u:=by rw[<-hb];simp
 unfold results
 simp[hf,ha2,hb2,asAddr,Sem.run_bind,hl]
theorem EN {P:Prop} (h:P:=by
 try (have mz:=mk0;clear mz;have tg1:(m.tag==1)=true:=by rw[ht];rfl)
 try (have mz:=mk1;clear mz;have tg1:(m.tag==1)=false:=by rw[ht];rfl)
 try (have mz:=mk1;clear mz;have tg2:(m.tag==2)=true:=by rw[ht];rfl)
 try (have mz:=mk2;clear mz;have tg1:(m.tag==1)=false:=by rw[ht];rfl)
 try (have mz:=mk2;clear mz;have tg2:(m.tag==2)=false:=by rw[ht];rfl)
 obtain⟨W0,hW0⟩:∃W,(w.alloc (.cells m.row 42)).alloc (.cells #[.int .u8 0,.int .i64 0,.int .i64 0,.int .i64 0,.int .i64 0,.int .i64 0,.int .i64 0,.int .i64 0,.int .i64 0] 24)=W:=⟨_,rfl⟩
 have hb0:Below w.heap.size w W0:=by rw[<-hW0];exact((KR _ _).alloc (KS _) _).alloc (by simp) _
 have b0:Blk W0 w.heap.size 42 m.row:=by rw[<-hW0];exact(Blk.new _ _ _).alloc _
 have br:Blk W0 (w.heap.size+1) 24 #[.int .u8 0,.int .i64 0,.int .i64 0,.int .i64 0,.int .i64 0,.int .i64 0,.int .i64 0,.int .i64 0,.int .i64 0]:=by rw[<-hW0];exact aj (by simp)
 have q0:W0.cell? ⟨w.heap.size,0,none⟩=some (.int .u8 m.tag):=b0.cell 0
 have HW0:=KO hW0
 have HB0:=KO hb0
 have HP0:=KO b0
 have HR0:=KO br
 clear hW0 hb0 b0 br ht
 go_enter func88,ntmps88
 go_upto_region 1 with fail
 rw[HW0.out]
 first|(have mz:=mk0;clear mz;go_upto_region 2 with fail)|(have mz:=mk1;clear mz;go_upto_region 4 with fail)|(have mz:=mk2;clear mz;go_upto_region 5 with fail)
 first|(have mz:=mk0;clear mz;have rg0:W0.rangeAt w.heap.size 2 m.pc.row.toList:=ae HP0.out 2 9 rfl)|(have mz:=mk1;clear mz;have rg0:W0.rangeAt w.heap.size 17 m.bc.row.toList:=ae HP0.out 17 9 rfl)|(have mz:=mk2;clear mz;have rg0:W0.rangeAt w.heap.size 35 m.lc.row.toList:=ae HP0.out 35 9 rfl)
 try dsimp only[]
 first|(have mz:=mk0;clear mz;repeat (first|refine Mi rfl 24 (.tmp 7) rfl w.heap.size 2 rfl _ _ rg0 underlying24 rfl bB ?_|refine Mw 24 (.tmp 7) rfl w.heap.size 2 rfl _ _ rg0 underlying24 rfl bB ?_|(refine ah rfl 24 (.tmp 2) (.tmp 8) rfl (w.heap.size+1) 0 m.pc.row rfl rfl HR0.out (by simp) bB (Ld (by simp[K5])) ?_;intro W1 hm1 hk1)|go_values|go_skip|go_guarded|go_step|go_upon))|(have mz:=mk1;clear mz;repeat (first|refine Mi rfl 24 (.tmp 14) rfl w.heap.size 17 rfl _ _ rg0 underlying24 rfl bB ?_|refine Mw 24 (.tmp 14) rfl w.heap.size 17 rfl _ _ rg0 underlying24 rfl bB ?_|(refine ah rfl 24 (.tmp 2) (.tmp 15) rfl (w.heap.size+1) 0 m.bc.row rfl rfl HR0.out (by simp) bB (Ld (by simp[K5])) ?_;intro W1 hm1 hk1)|go_values|go_skip|go_guarded|go_step|go_upon))|(have mz:=mk2;clear mz;repeat (first|refine Mi rfl 24 (.tmp 17) rfl w.heap.size 35 rfl _ _ rg0 underlying24 rfl bB ?_|refine Mw 24 (.tmp 17) rfl w.heap.size 35 rfl _ _ rg0 underlying24 rfl bB ?_|(refine ah rfl 24 (.tmp 2) (.tmp 18) rfl (w.heap.size+1) 0 m.lc.row rfl rfl HR0.out (by simp) bB (Ld (by simp[K5])) ?_;intro W1 hm1 hk1)|go_values|go_skip|go_guarded|go_step|go_upon))
 clear rg0
 have HM1:=KO hm1
 first|(have mz:=mk0;clear mz;have HK1:=KO (show Blk W1 (w.heap.size+1) 24 m.pc.row by simp[dn]at hk1;exact hk1))|(have mz:=mk1;clear mz;have HK1:=KO (show Blk W1 (w.heap.size+1) 24 m.bc.row by simp[dn]at hk1;exact hk1))|(have mz:=mk2;clear mz;have HK1:=KO (show Blk W1 (w.heap.size+1) 24 m.lc.row by simp[dn]at hk1;exact hk1))
 clear hm1 hk1
 try go_wp2_with fail
 first|refine KV (v:= .agg m.pc.row) (bu results88 rfl (MW W1 (w.heap.size+1) 0 24 m.pc.row.toList _ (ae HK1.out 0 9 rfl) underlying24 rfl bB)) rfl ?_|refine KV (v:= .agg m.bc.row) (bu results88 rfl (MW W1 (w.heap.size+1) 0 24 m.bc.row.toList _ (ae HK1.out 0 9 rfl) underlying24 rfl bB)) rfl ?_|refine KV (v:= .agg m.lc.row) (bu results88 rfl (MW W1 (w.heap.size+1) 0 24 m.lc.row.toList _ (ae HK1.out 0 9 rfl) underlying24 rfl bB)) rfl ?_
 exact⟨rfl,HB0.out.trans (HM1.out.below HB0.out.size (fun b hb=>by have hb:b=w.heap.size+1:=hb;omega))⟩):P:=h
theorem xK (m:Mv) (w:World) (ht:m.tag=1):Calls prog 88 #[.agg m.row] w fun r w'=>r= .returned (.agg m.pc.row)/\Below w.heap.size w w':=by
 have mk0:=()
 exact EN
theorem FQ {P:Prop} (h:P:=by
 try (have mz:=mk0;clear mz;have tg1:(m.tag==1)=true:=by rw[ht];rfl)
 try (have mz:=mk0;clear mz;have hck:=fun W (h:Below w.heap.size w W)=>pG m.pc m.ps W (hs.pma.below h) ho.pma)
 try (have mz:=mk0;clear mz;obtain⟨E,hE⟩:∃E,fV m.pc m.ps=E:=⟨_,rfl⟩)
 try (have mz:=mk1;clear mz;have tg1:(m.tag==1)=false:=by rw[ht];rfl)
 try (have mz:=mk1;clear mz;have tg2:(m.tag==2)=true:=by rw[ht];rfl)
 try (have mz:=mk1;clear mz;have hck:=fun W (h:Below w.heap.size w W)=>xx m.bc m.bs m.bx W (hs.cob.below h) (hs.ix.below h) ho.cob ho.ix)
 try (have mz:=mk1;clear mz;obtain⟨E,hE⟩:∃E,fI m.bc m.bs m.bx=E:=⟨_,rfl⟩)
 try (have mz:=mk2;clear mz;have tg1:(m.tag==1)=false:=by rw[ht];rfl)
 try (have mz:=mk2;clear mz;have tg2:(m.tag==2)=false:=by rw[ht];rfl)
 try (have mz:=mk2;clear mz;have hck:=fun W (h:Below w.heap.size w W)=>xE m.lB m.lR m.lk m.lc m.ln W (RunsAt.below hs.log h) (by have:=ho.log;omega) (by have:=ho.log;omega))
 try (have mz:=mk2;clear mz;obtain⟨E,hE⟩:∃E,jw m.lc (aB m.lR)=E:=⟨_,rfl⟩)
 rw[hE]at hck ⊢
 have HCK:=KO hck
 obtain⟨W0,hW0⟩:∃W,(w.alloc (.cells m.row 42)).alloc (.cells #[.int .u8 0,.int .u64 0,.int .u8 0,.int .i64 0,.int .i64 0,.int .i64 0,.int .i64 0,.int .i64 0,.int .i64 0,.int .i64 0,.int .i64 0,.int .i64 0,.slice none 0 0,.slice none 0 0,.slice none 0 0,.slice none 0 0,.int .u64 0,.int .u8 0,.int .i64 0,.int .i64 0,.int .i64 0,.int .i64 0,.int .i64 0,.int .i64 0,.int .i64 0,.int .i64 0,.int .i64 0,.slice none 0 0,.slice none 0 0,.slice none 0 0,.slice none 0 0,.int .u64 0,.int .i64 0,.slice none 0 0,.slice none 0 0,.int .u8 0,.int .i64 0,.int .i64 0,.int .i64 0,.int .i64 0,.int .i64 0,.int .i64 0,.int .i64 0,.int .i64 0,.slice none 0 0,.int .u64 0] 42)=W:=⟨_,rfl⟩
 have hb0:Below w.heap.size w W0:=by rw[<-hW0];exact((KR _ _).alloc (KS _) _).alloc (by simp) _
 have b0:Blk W0 w.heap.size 42 m.row:=by rw[<-hW0];exact(Blk.new _ _ _).alloc _
 have br:Blk W0 (w.heap.size+1) 42 #[.int .u8 0,.int .u64 0,.int .u8 0,.int .i64 0,.int .i64 0,.int .i64 0,.int .i64 0,.int .i64 0,.int .i64 0,.int .i64 0,.int .i64 0,.int .i64 0,.slice none 0 0,.slice none 0 0,.slice none 0 0,.slice none 0 0,.int .u64 0,.int .u8 0,.int .i64 0,.int .i64 0,.int .i64 0,.int .i64 0,.int .i64 0,.int .i64 0,.int .i64 0,.int .i64 0,.int .i64 0,.slice none 0 0,.slice none 0 0,.slice none 0 0,.slice none 0 0,.int .u64 0,.int .i64 0,.slice none 0 0,.slice none 0 0,.int .u8 0,.int .i64 0,.int .i64 0,.int .i64 0,.int .i64 0,.int .i64 0,.int .i64 0,.int .i64 0,.int .i64 0,.slice none 0 0,.int .u64 0]:=by rw[<-hW0];exact aj (by simp)
 have q0:W0.cell? ⟨w.heap.size,0,none⟩=some (.int .u8 m.tag):=b0.cell 0
 have q1:W0.cell? ⟨w.heap.size,1,none⟩=some (.int .u64 m.ver):=b0.cell 1
 have HW0:=KO hW0
 have HB0:=KO hb0
 have HP0:=KO b0
 have HR0:=KO br
 clear hW0 hb0 b0 br ht hs ho hck hE
 go_enter func87,ntmps87
 go_upto_region 1 with fail
 rw[HW0.out]
 try dsimp only[]
 first|(have mz:=mk0;clear mz;repeat (first|(refine ah rfl 42 (.tmp 4) (.tmp 9) rfl W0.heap.size 0 #[.int .u8 m.tag,.int .u64 m.ver,.int .u8 0,.int .i64 0,.int .i64 0,.int .i64 0,.int .i64 0,.int .i64 0,.int .i64 0,.int .i64 0,.int .i64 0,.int .i64 0,.slice none 0 0,.slice none 0 0,.slice none 0 0,.slice none 0 0,.int .u64 0,.int .u8 0,.int .i64 0,.int .i64 0,.int .i64 0,.int .i64 0,.int .i64 0,.int .i64 0,.int .i64 0,.int .i64 0,.int .i64 0,.slice none 0 0,.slice none 0 0,.slice none 0 0,.slice none 0 0,.int .u64 0,.int .i64 0,.slice none 0 0,.slice none 0 0,.int .u8 0,.int .i64 0,.int .i64 0,.int .i64 0,.int .i64 0,.int .i64 0,.int .i64 0,.int .i64 0,.int .i64 0,.slice none 0 0,.int .u64 0] rfl rfl (aj rfl) (by simp) af (Ld (by simp[K5])) ?_;intro W1 hm1 hk1;have p0:W1.cell? ⟨w.heap.size,0,none⟩=some (.int .u8 m.tag):=((HP0.out.alloc _).mod hm1 (Nat.ne_of_lt HP0.out.lt)).cell 0)|refine eX ((HP0.out.alloc _).mod hm1 (Nat.ne_of_lt HP0.out.lt)) 2 underlying31 bK rfl rfl rfl rfl ?_|(refine ah rfl 31 (.tmp 15) (.tmp 14) rfl W0.heap.size 2 (cB m.pc m.ps) rfl rfl (show Blk W1 W0.heap.size 42 #[.int .u8 m.tag,.int .u64 m.ver,.int .u8 0,.int .i64 0,.int .i64 0,.int .i64 0,.int .i64 0,.int .i64 0,.int .i64 0,.int .i64 0,.int .i64 0,.int .i64 0,.slice none 0 0,.slice none 0 0,.slice none 0 0,.slice none 0 0,.int .u64 0,.int .u8 0,.int .i64 0,.int .i64 0,.int .i64 0,.int .i64 0,.int .i64 0,.int .i64 0,.int .i64 0,.int .i64 0,.int .i64 0,.slice none 0 0,.slice none 0 0,.slice none 0 0,.slice none 0 0,.int .u64 0,.int .i64 0,.slice none 0 0,.slice none 0 0,.int .u8 0,.int .i64 0,.int .i64 0,.int .i64 0,.int .i64 0,.int .i64 0,.int .i64 0,.int .i64 0,.int .i64 0,.slice none 0 0,.int .u64 0]by simp[dn]at hk1;exact hk1) (by simp) bK (Ld (by simp[K5])) ?_;intro W2 hm2 hk2;refine Hid.out ?_)|go_values|go_skip|go_guarded|go_step|go_upon))|(have mz:=mk1;clear mz;repeat (first|(refine ah rfl 42 (.tmp 4) (.tmp 9) rfl W0.heap.size 0 #[.int .u8 m.tag,.int .u64 m.ver,.int .u8 0,.int .i64 0,.int .i64 0,.int .i64 0,.int .i64 0,.int .i64 0,.int .i64 0,.int .i64 0,.int .i64 0,.int .i64 0,.slice none 0 0,.slice none 0 0,.slice none 0 0,.slice none 0 0,.int .u64 0,.int .u8 0,.int .i64 0,.int .i64 0,.int .i64 0,.int .i64 0,.int .i64 0,.int .i64 0,.int .i64 0,.int .i64 0,.int .i64 0,.slice none 0 0,.slice none 0 0,.slice none 0 0,.slice none 0 0,.int .u64 0,.int .i64 0,.slice none 0 0,.slice none 0 0,.int .u8 0,.int .i64 0,.int .i64 0,.int .i64 0,.int .i64 0,.int .i64 0,.int .i64 0,.int .i64 0,.int .i64 0,.slice none 0 0,.int .u64 0] rfl rfl (aj rfl) (by simp) af (Ld (by simp[K5])) ?_;intro W1 hm1 hk1;have p0:W1.cell? ⟨w.heap.size,0,none⟩=some (.int .u8 m.tag):=((HP0.out.alloc _).mod hm1 (Nat.ne_of_lt HP0.out.lt)).cell 0)|refine eX ((HP0.out.alloc _).mod hm1 (Nat.ne_of_lt HP0.out.lt)) 17 underlying35 iy rfl rfl rfl rfl ?_|(refine ah rfl 35 (.tmp 25) (.tmp 24) rfl W0.heap.size 17 (cK m.bc m.bs m.bx) rfl rfl (show Blk W1 W0.heap.size 42 #[.int .u8 m.tag,.int .u64 m.ver,.int .u8 0,.int .i64 0,.int .i64 0,.int .i64 0,.int .i64 0,.int .i64 0,.int .i64 0,.int .i64 0,.int .i64 0,.int .i64 0,.slice none 0 0,.slice none 0 0,.slice none 0 0,.slice none 0 0,.int .u64 0,.int .u8 0,.int .i64 0,.int .i64 0,.int .i64 0,.int .i64 0,.int .i64 0,.int .i64 0,.int .i64 0,.int .i64 0,.int .i64 0,.slice none 0 0,.slice none 0 0,.slice none 0 0,.slice none 0 0,.int .u64 0,.int .i64 0,.slice none 0 0,.slice none 0 0,.int .u8 0,.int .i64 0,.int .i64 0,.int .i64 0,.int .i64 0,.int .i64 0,.int .i64 0,.int .i64 0,.int .i64 0,.slice none 0 0,.int .u64 0]by simp[dn]at hk1;exact hk1) (by simp) iy (Ld (by simp[K5])) ?_;intro W2 hm2 hk2;refine Hid.out ?_)|go_values|go_skip|go_guarded|go_step|go_upon))|(have mz:=mk2;clear mz;repeat (first|(refine ah rfl 42 (.tmp 4) (.tmp 9) rfl W0.heap.size 0 #[.int .u8 m.tag,.int .u64 m.ver,.int .u8 0,.int .i64 0,.int .i64 0,.int .i64 0,.int .i64 0,.int .i64 0,.int .i64 0,.int .i64 0,.int .i64 0,.int .i64 0,.slice none 0 0,.slice none 0 0,.slice none 0 0,.slice none 0 0,.int .u64 0,.int .u8 0,.int .i64 0,.int .i64 0,.int .i64 0,.int .i64 0,.int .i64 0,.int .i64 0,.int .i64 0,.int .i64 0,.int .i64 0,.slice none 0 0,.slice none 0 0,.slice none 0 0,.slice none 0 0,.int .u64 0,.int .i64 0,.slice none 0 0,.slice none 0 0,.int .u8 0,.int .i64 0,.int .i64 0,.int .i64 0,.int .i64 0,.int .i64 0,.int .i64 0,.int .i64 0,.int .i64 0,.slice none 0 0,.int .u64 0] rfl rfl (aj rfl) (by simp) af (Ld (by simp[K5])) ?_;intro W1 hm1 hk1;have p0:W1.cell? ⟨w.heap.size,0,none⟩=some (.int .u8 m.tag):=((HP0.out.alloc _).mod hm1 (Nat.ne_of_lt HP0.out.lt)).cell 0)|refine eX ((HP0.out.alloc _).mod hm1 (Nat.ne_of_lt HP0.out.lt)) 35 underlying40 iq rfl rfl rfl rfl ?_|(refine ah rfl 40 (.tmp 32) (.tmp 31) rfl W0.heap.size 35 (eH m.lc m.lB m.lR.length m.lk m.ln) rfl rfl (show Blk W1 W0.heap.size 42 #[.int .u8 m.tag,.int .u64 m.ver,.int .u8 0,.int .i64 0,.int .i64 0,.int .i64 0,.int .i64 0,.int .i64 0,.int .i64 0,.int .i64 0,.int .i64 0,.int .i64 0,.slice none 0 0,.slice none 0 0,.slice none 0 0,.slice none 0 0,.int .u64 0,.int .u8 0,.int .i64 0,.int .i64 0,.int .i64 0,.int .i64 0,.int .i64 0,.int .i64 0,.int .i64 0,.int .i64 0,.int .i64 0,.slice none 0 0,.slice none 0 0,.slice none 0 0,.slice none 0 0,.int .u64 0,.int .i64 0,.slice none 0 0,.slice none 0 0,.int .u8 0,.int .i64 0,.int .i64 0,.int .i64 0,.int .i64 0,.int .i64 0,.int .i64 0,.int .i64 0,.int .i64 0,.slice none 0 0,.int .u64 0]by simp[dn]at hk1;exact hk1) (by simp) iq (Ld (by simp[K5])) ?_;intro W2 hm2 hk2;refine Hid.out ?_)|go_values|go_skip|go_guarded|go_step|go_upon))
 refine KO ?_
 have hb1:Below W0.heap.size W0 W1:=((KR _ _).alloc (KS _) _).trans (hm1.below (by simp) (fun k hk=>Nat.le_of_eq (Eq.symm hk)))
 have hb2:Below W0.heap.size W0 W2:=hb1.trans (hm2.below hb1.size (fun k hk=>Nat.le_of_eq (Eq.symm hk)))
 have HB2:=KO (aa HB0.out hb2)
 have HP2:=KO (HP0.out.below hb2 HP0.out.lt)
 have HR2:=KO (HR0.out.below hb2 HR0.out.lt)
 first|(have mz:=mk0;clear mz;have HV2:=KO (show Blk W2 W0.heap.size 42 (Mv.row ⟨m.tag,m.ver,m.pc,m.ps,aI,fU,nD,aI,none,[],0,0⟩)by simp[dn]at hk2;exact hk2))|(have mz:=mk1;clear mz;have HV2:=KO (show Blk W2 W0.heap.size 42 (Mv.row ⟨m.tag,m.ver,aI,fU,m.bc,m.bs,m.bx,aI,none,[],0,0⟩)by simp[dn]at hk2;exact hk2))|(have mz:=mk2;clear mz;have HV2:=KO (show Blk W2 W0.heap.size 42 (Mv.row ⟨m.tag,m.ver,aI,fU,aI,fU,nD,m.lc,m.lB,m.lR,m.lk,m.ln⟩)by simp[dn]at hk2;exact hk2))
 clear hm1 hk1 p0 hm2 hk2 hb1 hb2 HB0 HP0 HR0 q0 q1
 obtain⟨gv,hgv⟩:∃g,W0.heap.size=g:=⟨_,rfl⟩
 rw[hgv]at HV2 ⊢
 clear hgv
 first|(have mz:=mk0;clear mz;go_upto_region 4 with fail)|(have mz:=mk1;clear mz;go_upto_region 7 with fail)|(have mz:=mk2;clear mz;go_upto_region 9 with fail)
 first|(have mz:=mk0;clear mz;refine aK (by kernel_rfl) 5 [.v [] fun v=>v 0= .pointer (some ⟨w.heap.size,2,none⟩),.v [0] fun v=>v 1= .agg (cB m.pc m.ps),.v [1] fun v=>v 2= .int .i64 E,.v [] fun v=>v 3= .agg (fA m).row,.v [2] fun v=>v 4= .int .i64 E] [3,4] rfl rfl (by kernel_rfl) (by kernel_rfl) ⟨_,fun v=>by simp only[ou,Act.put,Lg,LC,LK];rfl,?_⟩)|(have mz:=mk1;clear mz;refine aK (by kernel_rfl) 5 [.v [] fun v=>v 0= .pointer (some ⟨w.heap.size,17,none⟩),.v [0] fun v=>v 1= .agg (cK m.bc m.bs m.bx),.v [1] fun v=>v 2= .int .i64 E,.v [] fun v=>v 3= .agg (fu m).row,.v [2] fun v=>v 4= .int .i64 E] [3,4] rfl rfl (by kernel_rfl) (by kernel_rfl) ⟨_,fun v=>by simp only[ou,Act.put,Lg,LC,LK];rfl,?_⟩)|(have mz:=mk2;clear mz;refine aK (by kernel_rfl) 5 [.v [] fun v=>v 0= .pointer (some ⟨w.heap.size,35,none⟩),.v [0] fun v=>v 1= .agg (eH m.lc m.lB m.lR.length m.lk m.ln),.v [1] fun v=>v 2= .int .i64 E,.v [] fun v=>v 3= .agg (fw m).row,.v [2] fun v=>v 4= .int .i64 E] [3,4] rfl rfl (by kernel_rfl) (by kernel_rfl) ⟨_,fun v=>by simp only[ou,Act.put,Lg,LC,LK];rfl,?_⟩)
 simp only[iQ,oZ,dO,dV,gT,nC,dX,Lt,MF,MK,Lb,La,TEnt.v,TEnt.w,RB,RM,MZ,M8,decide_true,decide_false,Mj,Ms,LD,LF,if_true,if_false,↓reduceIte,Ll,List.length_cons,List.length_nil]
 refine⟨?_,?_,?_,?_,?_,fun v W hb=>?_⟩
 all_goals try intro v W K hb hK
 all_goals try ((first|(intro a;rw[a]at hK ⊢)|skip);go_wp2_with fail;exact hK _ _ (KR _ _) rfl)
 ·intro h0
  rw[h0]at hK ⊢
  first|refine Mw 31 (.tmp 16) rfl w.heap.size 2 rfl _ _ (ae (HP2.out.below hb HP2.out.lt) 2 15 rfl) underlying31 rfl bK ?_|refine Mw 35 (.tmp 26) rfl w.heap.size 17 rfl _ _ (ae (HP2.out.below hb HP2.out.lt) 17 18 rfl) underlying35 rfl iy ?_|refine Mw 40 (.tmp 33) rfl w.heap.size 35 rfl _ _ (ae (HP2.out.below hb HP2.out.lt) 35 11 rfl) underlying40 rfl iq ?_
  exact hK _ _ (KR _ _) rfl
 ·intro h1
  rw[h1]at hK ⊢
  go_wp2_with (first|(go_at_call 100;refine(HCK.out _ (aa HB2.out hb)).mono ?_;rintro e1 W1 ⟨rfl,hb1⟩)|(go_at_call 101;refine(HCK.out _ (aa HB2.out hb)).mono ?_;rintro e1 W1 ⟨rfl,hb1⟩)|(go_at_call 102;refine(HCK.out _ (aa HB2.out hb)).mono ?_;rintro e1 W1 ⟨rfl,hb1⟩))
  exact hK _ _ hb1 rfl
 ·refine Mw 42 (.tmp 4) rfl gv 0 rfl _ _ (ae (HV2.out.below hb HV2.out.lt) 0 46 rfl) underlying42 rfl af ?_
  exact hK _ _ (KR _ _) rfl
 intro h3 h4
 rw[h3,h4]
 have hg:=HR2.out.below hb HR2.out.lt
 first|(have mz:=mk0;clear mz;have hn:=Blk.setCells (fA m).row.toList 0 _ _ hg)|(have mz:=mk1;clear mz;have hn:=Blk.setCells (fu m).row.toList 0 _ _ hg)|(have mz:=mk2;clear mz;have hn:=Blk.setCells (fw m).row.toList 0 _ _ hg)
 refine wpOp_step rfl fun K hK=>?_
 first|refine aF rfl 42 (.tmp 3) (.tmp 19) rfl (w.heap.size+1) 0 (fA m).row rfl rfl (aY hg 0 46 (by simp)) af (Ld (by simp[K5,fA])) ?_|refine aF rfl 42 (.tmp 3) (.tmp 29) rfl (w.heap.size+1) 0 (fu m).row rfl rfl (aY hg 0 46 (by simp)) af (Ld (by simp[K5,fu])) ?_|refine aF rfl 42 (.tmp 3) (.tmp 36) rfl (w.heap.size+1) 0 (fw m).row rfl rfl (aY hg 0 46 (by simp)) af (Ld (by simp[K5,fw])) ?_
 refine hK _ _ ?_
 first|(have mz:=mk0;clear mz;have HBZ:=KO (aS (Mm _) (fA m).row.toList 0 _ (aa HB2.out hb)))|(have mz:=mk1;clear mz;have HBZ:=KO (aS (Mm _) (fu m).row.toList 0 _ (aa HB2.out hb)))|(have mz:=mk2;clear mz;have HBZ:=KO (aS (Mm _) (fw m).row.toList 0 _ (aa HB2.out hb)))
 first|(have mz:=mk0;clear mz;obtain⟨V,hV⟩:∃V,W.setCells (w.heap.size+1) 0 (fA m).row.toList=V:=⟨_,rfl⟩)|(have mz:=mk1;clear mz;obtain⟨V,hV⟩:∃V,W.setCells (w.heap.size+1) 0 (fu m).row.toList=V:=⟨_,rfl⟩)|(have mz:=mk2;clear mz;obtain⟨V,hV⟩:∃V,W.setCells (w.heap.size+1) 0 (fw m).row.toList=V:=⟨_,rfl⟩)
 rw[hV]at HBZ hn ⊢
 first|(have mz:=mk0;clear mz;have HR3:=KO (show Blk V (w.heap.size+1) 42 (fA m).row by simp[dn]at hn;exact hn))|(have mz:=mk1;clear mz;have HR3:=KO (show Blk V (w.heap.size+1) 42 (fu m).row by simp[dn]at hn;exact hn))|(have mz:=mk2;clear mz;have HR3:=KO (show Blk V (w.heap.size+1) 42 (fw m).row by simp[dn]at hn;exact hn))
 clear hV hn hg hK K h3 h4
 try simp only[oZ]
 try go_wp2_with fail
 first|refine KV (v:= .tuple #[.int .i64 E,.agg (fA m).row]) (kM results87 rfl rfl (MW V (w.heap.size+1) 0 42 (fA m).row.toList _ (ae HR3.out 0 46 rfl) underlying42 rfl af)) rfl ?_|refine KV (v:= .tuple #[.int .i64 E,.agg (fu m).row]) (kM results87 rfl rfl (MW V (w.heap.size+1) 0 42 (fu m).row.toList _ (ae HR3.out 0 46 rfl) underlying42 rfl af)) rfl ?_|refine KV (v:= .tuple #[.int .i64 E,.agg (fw m).row]) (kM results87 rfl rfl (MW V (w.heap.size+1) 0 42 (fw m).row.toList _ (ae HR3.out 0 46 rfl) underlying42 rfl af)) rfl ?_
 exact⟨rfl,HBZ.out⟩):P:=h
theorem xq (m:Mv) (w:World) (ht:m.tag=1) (hs:MvAt w m) (ho:MvOk m):Calls prog 87 #[.agg m.row] w fun r w'=>r= .returned (.tuple #[.int .i64 (fV m.pc m.ps),.agg (fA m).row])/\Below w.heap.size w w':=by
 have mk0:=()
 exact FQ
theorem wX (m:Mv) (w:World) (ht:m.tag=2):Calls prog 88 #[.agg m.row] w fun r w'=>r= .returned (.agg m.bc.row)/\Below w.heap.size w w':=by
 have mk1:=()
 exact EN
theorem yR (m:Mv) (w:World) (ht:m.tag=2) (hs:MvAt w m) (ho:MvOk m):Calls prog 87 #[.agg m.row] w fun r w'=>r= .returned (.tuple #[.int .i64 (fI m.bc m.bs m.bx),.agg (fu m).row])/\Below w.heap.size w w':=by
 have mk1:=()
 exact FQ
theorem yw (m:Mv) (w:World) (ht:m.tag=3):Calls prog 88 #[.agg m.row] w fun r w'=>r= .returned (.agg m.lc.row)/\Below w.heap.size w w':=by
 have mk2:=()
 exact EN
theorem yL (m:Mv) (w:World) (ht:m.tag=3) (hs:MvAt w m) (ho:MvOk m):Calls prog 87 #[.agg m.row] w fun r w'=>r= .returned (.tuple #[.int .i64 (jw m.lc (aB m.lR)),.agg (fw m).row])/\Below w.heap.size w w':=by
 have mk2:=()
 exact FQ
theorem AY (m:Mv) (w:World) (ht:m.tag=1∨m.tag=2∨m.tag=3) (hs:MvAt w m) (ho:MvOk m):
  Calls prog 72 #[.agg m.row] w fun r w'=>r= .returned (.int .i64 (aV m))/\Below w.heap.size w w':=by
 obtain⟨c,hc⟩:∃c,kJ m=c:=⟨_,rfl⟩
 obtain⟨n,hn⟩:∃n,fq m=n:=⟨_,rfl⟩
 obtain⟨E,hE⟩:∃E,eD m=E:=⟨_,rfl⟩
 obtain⟨V,hV⟩:∃V,fM m n=V:=⟨_,rfl⟩
 obtain⟨R,hR⟩:∃R,aV m=R:=⟨_,rfl⟩
 have HCF:=KO (show∀W,Calls prog 88 #[.agg m.row] W (fun r w'=>r= .returned (.agg #[.int .u8 c.tag,.int .i64 c.most,.int .i64 c.seg,.int .i64 c.least,.int .i64 c.den,.int .i64 c.leafLow,.int .i64 c.rootLow,.int .i64 c.rootHigh,.int .i64 c.leafHigh])/\Below W.heap.size W w')from fun W=>by
  rw[<-hc]
  rcases ht with h|h|h
  ·have:=xK m W h;simpa[kJ,h]using this
  ·have:=wX m W h;simpa[kJ,h]using this
  ·have:=yw m W h;simpa[kJ,h]using this)
 have HSA:=KO (show∀W,MvAt W m->Calls prog 10 #[.agg m.row,.agg n.row] W (fun r w'=>r= .returned (.bool V)/\Below W.heap.size W w')from fun W h=>by
  have:=zZ (.inr rfl) m (fq m) W h (by
   unfold fq
   split
   ·exact⟨h.pma,kT W,wH W,oo W⟩
   ·split
    ·exact⟨kT W,h.cob,h.ix,oo W⟩
    ·exact⟨kT W,kT W,wH W,h.log⟩) ho (Ec ho)
  rw[hn,hV]at this
  exact this)
 have HBK:=KO (show∀W,Below w.heap.size w W->Calls prog 87 #[.agg m.row] W (fun r w'=>r= .returned (.tuple #[.int .i64 E,.agg n.row])/\Below W.heap.size W w')from fun W h=>by
  rw[<-hE,<-hn]
  rcases ht with q|q|q
  ·have:=xq m W q (hs.below h) ho;simpa[eD,fq,q]using this
  ·have:=yR m W q (hs.below h) ho;simpa[eD,fq,q]using this
  ·have:=yL m W q (hs.below h) ho;simpa[eD,fq,q]using this)
 have HR:=KO (show(if E=0 then(if c.tag=m.tag then(if V=true then(0:Int)else 8)else 8)else E)=R by
  rw[<-hR,<-hE,<-hc,<-hV,<-hn];unfold aV;rw[if_pos ht])
 have i1:¬m.tag< 1:=by omega
 have i2:¬(3:Int)< m.tag:=by omega
 rw[hR]
 obtain⟨W0,hW0,hb0,b0⟩:=gL w 42 m.row
 have q0:W0.cell? ⟨w.heap.size,0,none⟩=some (.int .u8 m.tag):=b0.cell 0
 have HW0:=KO hW0
 have HB0:=KO hb0
 have HP0:=KO b0
 have HS0:=KO (hs.below hb0)
 clear hW0 hb0 b0 ht hs ho hV hR hE hn hc
 go_enter func72,ntmps72
 go_upto_region 1 with fail
 rw[HW0.out]
 go_upto_region 3 with fail
 try dsimp only[]
 repeat (first|refine Mi rfl 42 (.tmp 1) rfl w.heap.size 0 rfl _ _ (ae HP0.out 0 46 rfl) underlying42 rfl af ?_|refine Mw 42 (.tmp 1) rfl w.heap.size 0 rfl _ _ (ae HP0.out 0 46 rfl) underlying42 rfl af ?_|go_values|go_skip|go_guarded|go_step|go_upon)
 refine(HBK.out _ HB0.out).mono ?_
 rintro e w1 ⟨rfl,hb1⟩
 have HB1:=KO (aa HB0.out hb1)
 have HP1:=KO (HP0.out.below hb1 HP0.out.lt)
 have HS1:=KO (HS0.out.below hb1)
 clear hb1 q0 i1 i2
 try dsimp only[]
 repeat (first|(refine ah rfl 42 (.tmp 4) (.tmp 17) rfl w1.heap.size 0 n.row rfl rfl (aj rfl) (by simp) af (Ld (by simp[K5])) ?_;intro w2 hm1 hk1;refine Hid.out ?_)|go_values|go_skip|go_guarded|go_step|go_upon)
 refine KO ?_
 have hb1:Below w1.heap.size w1 w2:=((KR _ _).alloc (KS _) _).trans (hm1.below (by simp) (fun k hk=>Nat.le_of_eq (Eq.symm hk)))
 have HB2:=KO (aa HB1.out hb1)
 have HP2:=KO (HP1.out.below hb1 HP1.out.lt)
 have HM2:=KO (HS1.out.below hb1)
 have HV2:=KO (show Blk w2 w1.heap.size 42 n.row by simpa[dn]using hk1)
 clear hm1 hk1 hb1
 obtain⟨gv,hgv⟩:∃g,w1.heap.size=g:=⟨_,rfl⟩
 rw[hgv]at HV2 ⊢
 clear hgv
 by_cases he:E=0
 case neg=>
  obtain rfl:R=E:=by rw[<-HR.out,if_neg he]
  go_wp2_with fail
  go_ret
  exact⟨rfl,HB2.out⟩
 case pos=>
 subst he
 obtain⟨U,hU⟩:∃U,decide (c.tag=m.tag->V=false)=U:=⟨_,rfl⟩
 have q0:w2.cell? ⟨w.heap.size,0,none⟩=some (.int .u8 m.tag):=HP2.out.cell 0
 have lg:=HP2.out.lt
 go_upto_region 6 with fail
 go_cut [32]from 21 to 32 (fun v wx=>v= .bool U/\Below w2.heap.size w2 wx)
 case first=>
  by_cases hq:c.tag=m.tag
  case pos=>
   have hy:(c.tag !=m.tag)=false:=by simp[hq]
   obtain rfl:U=!V:=by rw[<-hU];cases V <;> simp[hq]
   clear hq hU
   refine aK (by kernel_rfl) 12 [.v [] fun v=>v 0= .agg m.row,.v [0] fun v=>v 1= .agg #[.int .u8 c.tag,.int .i64 c.most,.int .i64 c.seg,.int .i64 c.least,.int .i64 c.den,.int .i64 c.leafLow,.int .i64 c.rootLow,.int .i64 c.rootHigh,.int .i64 c.leafHigh],.v [1] fun v=>v 2= .int .u8 c.tag,.v [] fun v=>v 3= .pointer (some ⟨w.heap.size,0,none⟩),.v [3] fun v=>v 4= .int .u8 m.tag,.v [2,4] fun v=>v 5= .bool false,.v [5] fun v=>v 6= .bool false,.v [6] fun v=>v 7= .agg m.row,.v [6] fun v=>v 8= .agg n.row,.v [6,7,8] fun v=>v 9= .bool V,.v [6,9] fun v=>v 10= .bool (!V),.v [6,10] fun v=>v 11= .bool (!V)] [11] rfl rfl (by kernel_rfl) (by kernel_rfl) ⟨_,fun v=>by simp only[ou,Act.put,Lg,LC,LK];rfl,?_⟩
   simp only[iQ,oZ,dO,dV,gT,nC,dX,Lt,MF,MK,Lb,La,TEnt.v,TEnt.w,RB,RM,MZ,M8,decide_true,decide_false,Mj,Ms,LD,LF,if_true,if_false,↓reduceIte,Ll,List.length_cons,List.length_nil]
   refine⟨?_,?_,?_,?_,?_,?_,?_,?_,?_,?_,?_,?_,fun v W hb=>?_⟩
   all_goals try intro v W K hb hK
   all_goals have hc:=(aO hb).1
   all_goals try ((first|(intro a b;rw[a,b]at hK ⊢)|(intro a;rw[a]at hK ⊢)|skip);go_wp2_with fail;exact hK _ _ (KR _ _) rfl)
   ·try dsimp only[]
    repeat (first|refine Mi rfl 42 (.tmp 1) rfl w.heap.size 0 rfl _ _ (ae (HP2.out.below hb HP2.out.lt) 0 46 rfl) underlying42 rfl af ?_|refine Mw 42 (.tmp 1) rfl w.heap.size 0 rfl _ _ (ae (HP2.out.below hb HP2.out.lt) 0 46 rfl) underlying42 rfl af ?_|go_values|go_skip|go_guarded|go_step|go_upon)
    exact hK _ _ (KR _ _) rfl
   ·intro h0
    rw[h0]at hK ⊢
    go_wp2_with (go_at_call 88;refine(HCF.out _).mono ?_;rintro e1 W1 ⟨rfl,hb1⟩)
    exact hK _ _ hb1 rfl
   ·intro h6
    rw[h6]at hK ⊢
    try dsimp only[]
    repeat (first|refine Mi rfl 42 (.tmp 1) rfl w.heap.size 0 rfl _ _ (ae (HP2.out.below hb HP2.out.lt) 0 46 rfl) underlying42 rfl af ?_|refine Mw 42 (.tmp 1) rfl w.heap.size 0 rfl _ _ (ae (HP2.out.below hb HP2.out.lt) 0 46 rfl) underlying42 rfl af ?_|go_values|go_skip|go_guarded|go_step|go_upon)
    exact hK _ _ (KR _ _) rfl
   ·intro h6
    rw[h6]at hK ⊢
    try dsimp only[]
    repeat (first|refine Mi rfl 42 (.tmp 4) rfl gv 0 rfl _ _ (ae (HV2.out.below hb HV2.out.lt) 0 46 rfl) underlying42 rfl af ?_|refine Mw 42 (.tmp 4) rfl gv 0 rfl _ _ (ae (HV2.out.below hb HV2.out.lt) 0 46 rfl) underlying42 rfl af ?_|go_values|go_skip|go_guarded|go_step|go_upon)
    exact hK _ _ (KR _ _) rfl
   ·intro h6 h7 h8
    rw[h6,h7,h8]at hK ⊢
    go_wp2_with (go_at_call 10;refine(HSA.out _ (HM2.out.below hb)).mono ?_;rintro e1 W1 ⟨rfl,hb1⟩)
    exact hK _ _ hb1 rfl
   intro h11
   rw[h11]
   go_wp2_with fail
   go_meet
   exact⟨rfl,hb⟩
  case neg=>
   have hy:(c.tag !=m.tag)=true:=by simp[hq]
   obtain rfl:U=true:=by rw[<-hU];simp[hq]
   clear hq hU
   refine aK (by kernel_rfl) 12 [.v [] fun v=>v 0= .agg m.row,.v [0] fun v=>v 1= .agg #[.int .u8 c.tag,.int .i64 c.most,.int .i64 c.seg,.int .i64 c.least,.int .i64 c.den,.int .i64 c.leafLow,.int .i64 c.rootLow,.int .i64 c.rootHigh,.int .i64 c.leafHigh],.v [1] fun v=>v 2= .int .u8 c.tag,.v [] fun v=>v 3= .pointer (some ⟨w.heap.size,0,none⟩),.v [3] fun v=>v 4= .int .u8 m.tag,.v [2,4] fun v=>v 5= .bool true,.v [5] fun v=>v 6= .bool true,.v [6] fun v=>v 7=undef,.v [6] fun v=>v 8=undef,.v [6] fun v=>v 9=undef,.v [6] fun v=>v 10=undef,.v [6] fun v=>v 11= .bool true] [11] rfl rfl (by kernel_rfl) (by kernel_rfl) ⟨_,fun v=>by simp only[ou,Act.put,Lg,LC,LK];rfl,?_⟩
   simp only[iQ,oZ,dO,dV,gT,nC,dX,Lt,MF,MK,Lb,La,TEnt.v,TEnt.w,RB,RM,MZ,M8,decide_true,decide_false,Mj,Ms,LD,LF,if_true,if_false,↓reduceIte,Ll,List.length_cons,List.length_nil]
   refine⟨?_,?_,?_,?_,?_,?_,?_,?_,?_,?_,?_,?_,fun v W hb=>?_⟩
   all_goals try intro v W K hb hK
   all_goals have hc:=(aO hb).1
   all_goals try ((first|(intro a b;rw[a,b]at hK ⊢)|(intro a;rw[a]at hK ⊢)|skip);go_wp2_with fail;exact hK _ _ (KR _ _) rfl)
   ·try dsimp only[]
    repeat (first|refine Mi rfl 42 (.tmp 1) rfl w.heap.size 0 rfl _ _ (ae (HP2.out.below hb HP2.out.lt) 0 46 rfl) underlying42 rfl af ?_|refine Mw 42 (.tmp 1) rfl w.heap.size 0 rfl _ _ (ae (HP2.out.below hb HP2.out.lt) 0 46 rfl) underlying42 rfl af ?_|go_values|go_skip|go_guarded|go_step|go_upon)
    exact hK _ _ (KR _ _) rfl
   ·intro h0
    rw[h0]at hK ⊢
    go_wp2_with (go_at_call 88;refine(HCF.out _).mono ?_;rintro e1 W1 ⟨rfl,hb1⟩)
    exact hK _ _ hb1 rfl
   intro h11
   rw[h11]
   go_wp2_with fail
   go_meet
   exact⟨rfl,hb⟩
 case rest=>
 obtain⟨rfl,hb3⟩:=hcut
 have HB3:=KO (aa HB2.out hb3)
 obtain rfl:R=if U=true then 8 else 0:=by rw[<-HR.out,<-hU];by_cases hq:c.tag=m.tag <;> cases V <;> simp[hq]
 clear hb3 hU q0 lg
 cases U with
 |false=>
  go_wp2_with fail
  go_ret
  exact⟨rfl,HB3.out⟩
 |true=>
  go_wp2_with fail
  go_ret
  exact⟨rfl,HB3.out⟩
end Go.Proofs.YtpbmbjjfdpkhbaaGreat
