/- CursorWalks of shelfmarklaw30: the pairs from a cursor on, and where it is then, or the errors, are as the document says, for every map, cursor and number; no condition. -/
import Derived.Test.YtpbmbjjfdpkhbaaGreatZw17
import Derived.Test.YtpbmbjjfdpkhbaaGreatZw10
import Derived.Test.YtpbmbjjfdpkhbaaGreatZw15
import Derived.Test.YtpbmbjjfdpkhbaaGreatRows
namespace Go.Proofs.YtpbmbjjfdpkhbaaGreat
open Go Go.RowKit
set_option linter.all false
set_option maxRecDepth 100000
set_option maxHeartbeats 32000000
open Go.Proofs.Tryz
open Go.DataW renaming trod->Lu,trod_int->Mh,trod_struct->M5
open List renaming append_assoc->Nc,drop->Ls,take->LP,take_of_length_le->KZ
section
open Go.ChangeShapes Go.WideShapes Go.ChangeAt
theorem mQ {α:Type} (f:α->Value) (l:List α):l.flatMap (fun x=>[f x])=l.map f:=by
 induction l with
 |nil=>rfl
 |cons x l ih=>rw[List.flatMap_cons,ih];rfl
theorem Jw (l:List Value) (a b:Nat) (h:l.length=a+b):l=LP a (Ls 0 l)++LP b (Ls a l):=by
 rw[List.drop_zero,KZ (l:=Ls a l) (by rw[List.length_drop,h];omega),List.take_append_drop]
theorem IR (l:List Value) (o a:Nat):Ls o l=LP a (Ls o l)++Ls (o+a) l:=by
 rw[<-List.drop_drop,List.take_append_drop]
theorem KA (l:List Value) (h:l.length=46):l=LP 1 (Ls 0 l)++LP 1 (Ls 1 l)++LP 15 (Ls 2 l)++LP 18 (Ls 17 l)++LP 11 (Ls 35 l):=by
 have e1:Ls 0 l=LP 1 (Ls 0 l)++Ls 1 l:=IR l 0 1
 have e2:Ls 1 l=LP 1 (Ls 1 l)++Ls 2 l:=IR l 1 1
 have e3:Ls 2 l=LP 15 (Ls 2 l)++Ls 17 l:=IR l 2 15
 have e4:Ls 17 l=LP 18 (Ls 17 l)++Ls 35 l:=IR l 17 18
 have e5:LP 11 (Ls 35 l)=Ls 35 l:=KZ (by rw[List.length_drop,h];decide)
 rw[e5,Nc,Nc,Nc,<-e4,<-e3,<-e2,<-e1,List.drop_zero]
theorem qO {H:Type} {enc:TypeId × Value->H} {w:World} (fuel:Nat) (cs:List Value) (y:DataW H × List MemPlace) (h:Lu enc prog w 0 (fun _=>true) true fuel 26 cs=some y):
  ∃(A:Option Addr) (l:List Int) (c:Nat),cs=[.slice A l.length c]/\Sl w A (l.map iv)/\∀x∈l,True:=by
 have hv:∃a len cap,cs=[.slice a len cap]:=by
  rcases Go.Deep.open_slice underlying26 h with⟨h1,_⟩|⟨a,len,cap,_,_,_,_,h1,_⟩
  ·exact⟨_,_,_,h1⟩
  ·exact⟨_,_,_,h1⟩
 obtain⟨a,len,cap,rfl⟩:=hv
 obtain⟨A,l,c,h1,_,_,h4,h5⟩:=iI (v:= .slice a len cap) (s:=1) (fun x:Int=>[iv x]) (fun x=>True) (fun _=>rfl) (by omega) underlying26 (by kernel_rfl)
  (fun fuel cs y h=>by
   obtain⟨n,e,_,f⟩:=Mh underlying2 h
   exact⟨n,by rw[e];rfl,trivial⟩) ⟨_,_,_,rfl⟩ h
 rw[mQ]at h4
 exact⟨A,l,c,by rw[h1],h4,h5⟩
theorem yP {H:Type} {enc:TypeId × Value->H} {w:World} (fuel:Nat) (cs:List Value) (y:DataW H × List MemPlace) (h:Lu enc prog w 0 (fun _=>true) true fuel 27 cs=some y):
  ∃(A:Option Addr) (l:List Int) (c:Nat),cs=[.slice A l.length c]/\Sl w A (l.map iv)/\∀x∈l,True:=by
 have hv:∃a len cap,cs=[.slice a len cap]:=by
  rcases Go.Deep.open_slice underlying27 h with⟨h1,_⟩|⟨a,len,cap,_,_,_,_,h1,_⟩
  ·exact⟨_,_,_,h1⟩
  ·exact⟨_,_,_,h1⟩
 obtain⟨a,len,cap,rfl⟩:=hv
 obtain⟨A,l,c,h1,_,_,h4,h5⟩:=iI (v:= .slice a len cap) (s:=1) (fun x:Int=>[iv x]) (fun x=>True) (fun _=>rfl) (by omega) underlying27 (by kernel_rfl)
  (fun fuel cs y h=>by
   obtain⟨n,e,_,f⟩:=Mh underlying3 h
   exact⟨n,by rw[e];rfl,trivial⟩) ⟨_,_,_,rfl⟩ h
 rw[mQ]at h4
 exact⟨A,l,c,by rw[h1],h4,h5⟩
theorem GI {H:Type} {enc:TypeId × Value->H} {w:World} (fuel:Nat) (cs:List Value) (y:DataW H × List MemPlace) (h:Lu enc prog w 0 (fun _=>true) true fuel 25 cs=some y):
  ∃(A:Option Addr) (l:List Nat) (c:Nat),cs=[.slice A l.length c]/\Sl w A (l.map uw)/\∀x∈l,x< 18446744073709551616:=by
 have hv:∃a len cap,cs=[.slice a len cap]:=by
  rcases Go.Deep.open_slice underlying25 h with⟨h1,_⟩|⟨a,len,cap,_,_,_,_,h1,_⟩
  ·exact⟨_,_,_,h1⟩
  ·exact⟨_,_,_,h1⟩
 obtain⟨a,len,cap,rfl⟩:=hv
 obtain⟨A,l,c,h1,_,_,h4,h5⟩:=iI (v:= .slice a len cap) (s:=1) (fun x:Nat=>[uw x]) (fun x=>x< 18446744073709551616) (fun _=>rfl) (by omega) underlying25 (by kernel_rfl)
  (fun fuel cs y h=>by
   obtain⟨n,e,_,f⟩:=Mh underlying22 h
   exact⟨n.toNat,by rw[e];show[Value.int .u64 n]=[Value.int .u64 (n.toNat:Int)];rw[Int.toNat_of_nonneg (vU f).1],by have:=vU f;omega⟩) ⟨_,_,_,rfl⟩ h
 rw[mQ]at h4
 exact⟨A,l,c,by rw[h1],h4,h5⟩
theorem D8 {H:Type} {enc:TypeId × Value->H} {w:World} (fuel:Nat) (cs:List Value) (y:DataW H × List MemPlace) (h:Lu enc prog w 0 (fun _=>true) true fuel 29 cs=some y):
  ∃s:Ss,cs=s.row.toList/\SsAt w s/\∀x∈s.ws,x< 18446744073709551616:=by
 obtain⟨xs,m,_,_,hlen,hxl,hg⟩:=M5 underlying29 h
 rw[show prog.cellsOf 29=6 from by kernel_rfl]at hlen
 match xs,hxl with
 |[x0,x1,x2,x3,x4,x5],_=>
  have h0:Lu enc prog w 0 (fun _=>true) true m 3 (LP (prog.cellsOf 3) (Ls 0 cs))=some x0:=hg 0 _ rfl
  rw[show prog.cellsOf 3=1 from by kernel_rfl]at h0
  have h1:Lu enc prog w 0 (fun _=>true) true m 25 (LP (prog.cellsOf 25) (Ls 1 cs))=some x1:=hg 1 _ rfl
  rw[show prog.cellsOf 25=1 from by kernel_rfl]at h1
  have h2:Lu enc prog w 0 (fun _=>true) true m 26 (LP (prog.cellsOf 26) (Ls 2 cs))=some x2:=hg 2 _ rfl
  rw[show prog.cellsOf 26=1 from by kernel_rfl]at h2
  have h3:Lu enc prog w 0 (fun _=>true) true m 26 (LP (prog.cellsOf 26) (Ls 3 cs))=some x3:=hg 3 _ rfl
  rw[show prog.cellsOf 26=1 from by kernel_rfl]at h3
  have h4:Lu enc prog w 0 (fun _=>true) true m 27 (LP (prog.cellsOf 27) (Ls 4 cs))=some x4:=hg 4 _ rfl
  rw[show prog.cellsOf 27=1 from by kernel_rfl]at h4
  have h5:Lu enc prog w 0 (fun _=>true) true m 22 (LP (prog.cellsOf 22) (Ls 5 cs))=some x5:=hg 5 _ rfl
  rw[show prog.cellsOf 22=1 from by kernel_rfl]at h5
  match cs,hlen with
  |[c0,c1,c2,c3,c4,c5],_=>
   obtain⟨n0,e0,_,_⟩:=Mh underlying3 h0
   obtain⟨A1,l1,k1,e1,s1,g1⟩:=GI _ _ _ h1
   obtain⟨A2,l2,k2,e2,s2,_⟩:=qO _ _ _ h2
   obtain⟨A3,l3,k3,e3,s3,_⟩:=qO _ _ _ h3
   obtain⟨A4,l4,k4,e4,s4,_⟩:=yP _ _ _ h4
   obtain⟨n5,e5,_,_⟩:=Mh underlying22 h5
   simp at e0 e1 e2 e3 e4 e5
   subst e0 e1 e2 e3 e4 e5
   exact⟨⟨n0,l1,l2,l3,l4,n5,A1,A2,A3,A4,k1,k2,k3,k4⟩,rfl,⟨s1,s2,s3,s4⟩,g1⟩
theorem CL {H:Type} {enc:TypeId × Value->H} {w:World} (fuel:Nat) (cs:List Value) (y:DataW H × List MemPlace) (h:Lu enc prog w 0 (fun _=>true) true fuel 31 cs=some y):
  ∃(c:Cfg) (s:Ss),cs=c.row.toList++s.row.toList/\SsAt w s/\∀x∈s.ws,x< 18446744073709551616:=by
 obtain⟨xs,m,_,_,hlen,hxl,hg⟩:=M5 underlying31 h
 rw[show prog.cellsOf 31=15 from by kernel_rfl]at hlen
 match xs,hxl with
 |[x0,x1],_=>
  have h0:Lu enc prog w 0 (fun _=>true) true m 24 (LP (prog.cellsOf 24) (Ls 0 cs))=some x0:=hg 0 _ rfl
  rw[show prog.cellsOf 24=9 from by kernel_rfl]at h0
  have h1:Lu enc prog w 0 (fun _=>true) true m 29 (LP (prog.cellsOf 29) (Ls 9 cs))=some x1:=hg 1 _ rfl
  rw[show prog.cellsOf 29=6 from by kernel_rfl]at h1
  obtain⟨c,e0⟩:=CG _ _ _ h0
  obtain⟨s,e1,h2,h3⟩:=D8 _ _ _ h1
  exact⟨c,s,by rw[Jw cs 9 6 hlen,e0,e1],h2,h3⟩
theorem Dt {H:Type} {enc:TypeId × Value->H} {w:World} (fuel:Nat) (cs:List Value) (y:DataW H × List MemPlace) (h:Lu enc prog w 0 (fun _=>true) true fuel 33 cs=some y):
  ∃x:Ix,cs=x.row.toList/\IxAt w x:=by
 obtain⟨xs,m,_,_,hlen,hxl,hg⟩:=M5 underlying33 h
 rw[show prog.cellsOf 33=3 from by kernel_rfl]at hlen
 match xs,hxl with
 |[x0,x1,x2],_=>
  have h0:Lu enc prog w 0 (fun _=>true) true m 3 (LP (prog.cellsOf 3) (Ls 0 cs))=some x0:=hg 0 _ rfl
  rw[show prog.cellsOf 3=1 from by kernel_rfl]at h0
  have h1:Lu enc prog w 0 (fun _=>true) true m 26 (LP (prog.cellsOf 26) (Ls 1 cs))=some x1:=hg 1 _ rfl
  rw[show prog.cellsOf 26=1 from by kernel_rfl]at h1
  have h2:Lu enc prog w 0 (fun _=>true) true m 27 (LP (prog.cellsOf 27) (Ls 2 cs))=some x2:=hg 2 _ rfl
  rw[show prog.cellsOf 27=1 from by kernel_rfl]at h2
  match cs,hlen with
  |[c0,c1,c2],_=>
   obtain⟨n0,e0,_,_⟩:=Mh underlying3 h0
   obtain⟨A1,l1,k1,e1,s1,_⟩:=qO _ _ _ h1
   obtain⟨A2,l2,k2,e2,s2,_⟩:=yP _ _ _ h2
   simp at e0 e1 e2
   subst e0 e1 e2
   exact⟨⟨n0,l1,l2,A1,A2,k1,k2⟩,rfl,⟨s1,s2⟩⟩
theorem IL {H:Type} {enc:TypeId × Value->H} {w:World} (fuel:Nat) (cs:List Value) (y:DataW H × List MemPlace) (h:Lu enc prog w 0 (fun _=>true) true fuel 35 cs=some y):
  ∃(c:Cfg) (s:Ss) (x:Ix),cs=c.row.toList++s.row.toList++x.row.toList/\SsAt w s/\IxAt w x/\∀x∈s.ws,x< 18446744073709551616:=by
 obtain⟨xs,m,_,_,hlen,hxl,hg⟩:=M5 underlying35 h
 rw[show prog.cellsOf 35=18 from by kernel_rfl]at hlen
 match xs,hxl with
 |[x0,x1],_=>
  have h0:Lu enc prog w 0 (fun _=>true) true m 31 (LP (prog.cellsOf 31) (Ls 0 cs))=some x0:=hg 0 _ rfl
  rw[show prog.cellsOf 31=15 from by kernel_rfl]at h0
  have h1:Lu enc prog w 0 (fun _=>true) true m 33 (LP (prog.cellsOf 33) (Ls 15 cs))=some x1:=hg 1 _ rfl
  rw[show prog.cellsOf 33=3 from by kernel_rfl]at h1
  obtain⟨c,s,e0,h2,h3⟩:=CL _ _ _ h0
  obtain⟨x,e1,h4⟩:=Dt _ _ _ h1
  exact⟨c,s,x,by rw[Jw cs 15 3 hlen,e0,e1],h2,h4,h3⟩
theorem Ap {H:Type} {enc:TypeId × Value->H} {w:World} (fuel:Nat) (cs:List Value) (y:DataW H × List MemPlace) (h:Lu enc prog w 0 (fun _=>true) true fuel 40 cs=some y):
  ∃(c:Cfg) (B:Option Addr) (Rs:List Rm) (k:Nat) (n:Int),cs=c.row.toList++[.slice B Rs.length k,.int .u64 n]/\RunsAt w B Rs:=by
 obtain⟨xs,m,_,_,hlen,hxl,hg⟩:=M5 underlying40 h
 rw[show prog.cellsOf 40=11 from by kernel_rfl]at hlen
 match xs,hxl with
 |[x0,x1],_=>
  have h0:Lu enc prog w 0 (fun _=>true) true m 24 (LP (prog.cellsOf 24) (Ls 0 cs))=some x0:=hg 0 _ rfl
  rw[show prog.cellsOf 24=9 from by kernel_rfl]at h0
  have h1:Lu enc prog w 0 (fun _=>true) true m 38 (LP (prog.cellsOf 38) (Ls 9 cs))=some x1:=hg 1 _ rfl
  rw[show prog.cellsOf 38=2 from by kernel_rfl]at h1
  obtain⟨c,e0⟩:=CG _ _ _ h0
  obtain⟨B,Rs,k,n,e1,hr,_,_⟩:=Dg _ _ _ h1
  exact⟨c,B,Rs,k,n,by rw[Jw cs 9 2 hlen,e0,e1],hr⟩
theorem Ia {H:Type} {enc:TypeId × Value->H} {w:World} (fuel:Nat) (cs:List Value) (y:DataW H × List MemPlace) (h:Lu enc prog w 0 (fun _=>true) true fuel 42 cs=some y):
  ∃m:Mv,cs=m.row.toList/\MvAt w m/\(∀x∈m.ps.ws,x< 18446744073709551616)/\(∀x∈m.bs.ws,x< 18446744073709551616):=by
 obtain⟨xs,m,_,_,hlen,hxl,hg⟩:=M5 underlying42 h
 rw[show prog.cellsOf 42=46 from by kernel_rfl]at hlen
 match xs,hxl with
 |[x0,x1,x2,x3,x4],_=>
  have h0:Lu enc prog w 0 (fun _=>true) true m 5 (LP (prog.cellsOf 5) (Ls 0 cs))=some x0:=hg 0 _ rfl
  rw[show prog.cellsOf 5=1 from by kernel_rfl]at h0
  have h1:Lu enc prog w 0 (fun _=>true) true m 22 (LP (prog.cellsOf 22) (Ls 1 cs))=some x1:=hg 1 _ rfl
  rw[show prog.cellsOf 22=1 from by kernel_rfl]at h1
  have h2:Lu enc prog w 0 (fun _=>true) true m 31 (LP (prog.cellsOf 31) (Ls 2 cs))=some x2:=hg 2 _ rfl
  rw[show prog.cellsOf 31=15 from by kernel_rfl]at h2
  have h3:Lu enc prog w 0 (fun _=>true) true m 35 (LP (prog.cellsOf 35) (Ls 17 cs))=some x3:=hg 3 _ rfl
  rw[show prog.cellsOf 35=18 from by kernel_rfl]at h3
  have h4:Lu enc prog w 0 (fun _=>true) true m 40 (LP (prog.cellsOf 40) (Ls 35 cs))=some x4:=hg 4 _ rfl
  rw[show prog.cellsOf 40=11 from by kernel_rfl]at h4
  obtain⟨n0,e0,_,_⟩:=Mh underlying5 h0
  obtain⟨n1,e1,_,_⟩:=Mh underlying22 h1
  obtain⟨c2,s2,e2,a2,g2⟩:=CL _ _ _ h2
  obtain⟨c3,s3,x3,e3,a3,b3,g3⟩:=IL _ _ _ h3
  obtain⟨c4,B,Rs,k,n,e4,hr⟩:=Ap _ _ _ h4
  exact⟨⟨n0,n1,c2,s2,c3,s3,x3,c4,B,Rs,k,n⟩,by rw[KA cs hlen,e0,e1,e2,e3,e4];rfl,⟨a2,a3,b3,hr⟩,g2,g3⟩
theorem Ab {H:Type} {enc:TypeId × Value->H} {w:World} (fuel:Nat) (cs:List Value) (y:DataW H × List MemPlace) (h:Lu enc prog w 0 (fun _=>true) true fuel 44 cs=some y):
  ∃c:Cu,cs=c.row.toList:=by
 obtain⟨xs,m,_,_,hlen,hxl,hg⟩:=M5 underlying44 h
 rw[show prog.cellsOf 44=3 from by kernel_rfl]at hlen
 match xs,hxl with
 |[x0,x1,x2],_=>
  have h0:Lu enc prog w 0 (fun _=>true) true m 22 (LP (prog.cellsOf 22) (Ls 0 cs))=some x0:=hg 0 _ rfl
  rw[show prog.cellsOf 22=1 from by kernel_rfl]at h0
  have h1:Lu enc prog w 0 (fun _=>true) true m 4 (LP (prog.cellsOf 4) (Ls 1 cs))=some x1:=hg 1 _ rfl
  rw[show prog.cellsOf 4=1 from by kernel_rfl]at h1
  have h2:Lu enc prog w 0 (fun _=>true) true m 2 (LP (prog.cellsOf 2) (Ls 2 cs))=some x2:=hg 2 _ rfl
  rw[show prog.cellsOf 2=1 from by kernel_rfl]at h2
  match cs,hlen with
  |[c0,c1,c2],_=>
   obtain⟨n0,e0,_,_⟩:=Mh underlying22 h0
   obtain⟨b,e1,_⟩:=DataW.trod_bool underlying4 h1
   obtain⟨n2,e2,_,_⟩:=Mh underlying2 h2
   simp at e0 e1 e2
   subst e0 e1 e2
   exact⟨⟨n0,b,n2⟩,rfl⟩
theorem Gf {H:Type} {enc:TypeId × Value->H} {w:World} {base:Nat} {v:Value} {d:DataW H} {p:List MemPlace} (hok:Value.okWide prog w .any base 42 v)
  (h:DataW.Trod enc prog w 0 (fun _=>true) true 42 v d p):∃m:Mv,v= .agg m.row/\MvAt w m/\(∀x∈m.ps.ws,x< 18446744073709551616)/\(∀x∈m.bs.ws,x< 18446744073709551616):=by
 obtain⟨cs,rfl,_⟩:=okWide_struct underlying42 hok
 obtain⟨fuel,hf⟩:=h
 obtain⟨m,e,r⟩:=Ia _ _ _ hf
 obtain⟨l⟩:=cs
 have e':l=m.row.toList:=e
 subst e'
 exact⟨m,rfl,r⟩
theorem xQ {H:Type} {enc:TypeId × Value->H} {w:World} {base:Nat} {v:Value} {d:DataW H} {p:List MemPlace} (hok:Value.okWide prog w .any base 44 v)
  (h:DataW.Trod enc prog w 0 (fun _=>true) true 44 v d p):∃m:Cu,v= .agg m.row:=by
 obtain⟨cs,rfl,_⟩:=okWide_struct underlying44 hok
 obtain⟨fuel,hf⟩:=h
 obtain⟨m,e⟩:=Ab _ _ _ hf
 obtain⟨l⟩:=cs
 have e':l=m.row.toList:=e
 subst e'
 exact⟨m,rfl⟩
end
section
open Go.ChangeShapes Go.WideShapes Go.ChangeAt
theorem mK (os:Os) (started:os.Started) (H:Type) (enc:TypeId × Value->H):
  ReturnsInHanded {} checked os 3 .any (Rows.cursorWalksSpec.pre6 enc prog Tryz.f3 Rows.cursorWalksRow.domain false)
   (Rows.cursorWalksSpec.post enc prog Tryz.f3 false true false false):=by
 refine returnsInHanded_of_change (C:=checked) own started (by kernel_rfl) func3
  (ChangeSpec.witness6 (enc:=enc) (C:=checked) false ⟨#[],#[.agg (Mv.row ⟨0,0,aI,fU,aI,fU,nD,aI,none,[],0,0⟩),.agg #[.int .u64 0,.bool false,.int .i64 0],.int .i64 0],[]⟩ 8 (by kernel_rfl) (by kernel_rfl) (by kernel_rfl) (by kernel_rfl)) ?_
 intro W base args ds gs before hval0 hW _ _
 have hval:∀(j:Nat) t v,Tryz.f3.params[j]?=some t->args[j]?=some v->Value.okWide prog W .any base t v:=hval0
 have hW':=hW
 obtain⟨p,q,hA0,hV,rfl,hfz,hnd⟩:=hW
 have hA:DataW.TrodAll enc prog W 0 (fun _=>true) true Tryz.f3.params.toList args.toList ds p:=hA0
 rw[params3]at hA hval
 obtain⟨v0,v1,v2,d0,d1,d2,p0,p1,p2,rfl,rfl,rfl,h0,h1,h2⟩:=trodAll_three hA
 obtain⟨rfl,rfl⟩:=trodVars_none hV
 obtain⟨m,rfl,hs,hw1,hw2⟩:=Gf (hval 0 42 v0 rfl rfl) h0
 obtain⟨cu,rfl⟩:=xQ (hval 1 44 v1 rfl rfl) h1
 obtain⟨key,rfl⟩:=okWide_int underlying3 (hval 2 3 v2 rfl rfl)
 refine(qj m cu key W hs hw1 hw2).mono fun e W' ⟨he,hb⟩=>?_
 subst he
 exact⟨_,rfl,EK (tb:=4) laidOut (by intro t ht;rw[params3]at ht;simp at ht;rcases ht with rfl|rfl|rfl <;> exact⟨by kernel_rfl,of_decide_eq_true (by kernel_rfl)⟩) rfl hW' rfl rfl rfl (by kernel_rfl) underlying4 hb⟩
theorem cursorWalks_holds:Rows.CursorWalksSaid:=
 OpenClaim.holds_of_wide 3 Tryz.f3 rfl rfl rfl rfl rfl rfl rfl ⟨rfl,rfl,rfl,rfl,rfl⟩ rfl rfl rfl rfl rfl (by kernel_rfl) func3 (by kernel_rfl)
  (of_decide_eq_true (by kernel_rfl)) (by unfold Func.isWrapper;first|(rw[if_pos (by decide+kernel)];kernel_rfl)|(rw[if_neg (by decide+kernel)];exact⟨rfl,rfl⟩))
  (fun os started H enc _=>mK os started H enc)
end
end Go.Proofs.YtpbmbjjfdpkhbaaGreat
