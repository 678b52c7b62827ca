/-
Texts of this proof,one behind the other. No conditions.
-/
import Derived.Test.YtjfdoohogiojcaaGreatDoorKd
import Derived.Test.YtjfdoohogiojcaaGreatDoorKj
import Derived.Test.YtjfdoohogiojcaaGreatDoorKi
open Go.Proofs.YtjfdoohogiojcaaGreatDoor.V renaming undef→Ka
open List renaming drop_eq_getElem_cons→Kb,length_append→Ke,map_nil→Kg,take_of_length_le→Kh,map_append→Ki,getElem_mem→Kj,drop_length→Kk,map_cons→Km
open Nat renaming zero_le→Kc,lt_or_ge→Kf
open Bool renaming eq_iff_iff→Kd
open Nat renaming reduceAdd→jA,reduceSub→jB,reduceLT→jC,reduceLeDiff→jD,reduceEqDiff→jE
open Int renaming reduceToNat→jF,toNat_natCast→jG,natCast_add→jH,natCast_one→jI,natCast_zero→jJ
open List renaming length_map→jK,length_cons→jL,length_nil→jM,replicate_succ→jN,replicate_zero→jO,cons_append→jP,nil_append→jQ
set_option linter.unusedSimpArgs false
set_option linter.unusedVariables false
set_option linter.unusedSectionVars false
set_option maxHeartbeats 8000000
namespace Go.Proofs.YtjfdoohogiojcaaGreatDoor
open Go.RowKit Go.Sort
attribute [local irreducible] IntKind.wrap
set_option maxHeartbeats 4000000
theorem AM{k:Int}(hk:k≠5){s:ByteArray}{t:Tk}(h:eP dA s (bI s 0)=([t],none))(h1:t.k=k)(h2:t.t=s):t=⟨k,s,0⟩:=by
 have hs:0<s.size:=by
  rcases Nat.eq_zero_or_pos s.size with e|e
  ·rw[kJ or,iF or] at h;cases h
  exact e
 obtain⟨ha,_⟩:=xY h h1 hk h2 hs;cases t;simp only at h1 h2 ha;rw[h1,h2,ha]
noncomputable def cm(k:Int)(s:ByteArray):Bool:=decide (s.size≤4000∧eP dA s (bI s 0)=([⟨k,s,0⟩],none))
theorem vG(s:ByteArray)(k:Int)(hk5:k≠5)(h:Hp):aO Tryz.prog 107 [.str s, .int .i64 k] h (.bool (cm k s)):=by
 refine aI (fun L=>trivial) fun h' nx hh=>aB L.aSA fun hd=>?_;simp only[jL,jM,jA,jB,jN,jO,jP,jQ,Ka];have C0:=fun h=>s7 s h;unfold zn at C0;unfold cm;by_cases h1:4000<s.size
 ·rw[if_pos h1] at C0;have C1:=C0;have g1:((3:Int)==0)=false:=rfl;refine aue g1 ?_;refine aC h' (leo hd) ⟨?_,rfl⟩;first|rfl|(rw[decide_eq_false or];rfl)
 rw[if_neg h1] at C0;obtain⟨T,hT⟩:∃T,eP dA s (bI s 0)=T:=⟨_,rfl⟩;have hsg:=@AM k hk5 s;rw[hT] at C0 hsg⊢;obtain⟨l,b⟩:=T;have h2:s.size≤4000:=or;cases b with
 |some a=>
  have C1:∀h,aO Tryz.prog 129 [.str s] h (.tup [.sl (.agg 3) .nil [], .int .i64 a, .int .i64 2]):=C0;have g1:((2:Int)==0)=false:=rfl;refine aue g1 ?_;refine aC h' (leo hd) ⟨?_,rfl⟩;first|rfl|(rw[decide_eq_false Zm];rfl)
 |none=>
  have g1:((0:Int)==0)=true:=rfl;cases l with
  |nil=>
   have C1:∀h,aO Tryz.prog 129 [.str s] h (.tup [.sl (.agg 3) .nil [], .int .i64 0, .int .i64 0]):=C0;have hk:(((0:Nat):Int)==1)=false:=rfl;refine aue (e2 g1 hk) ?_;refine aC h' (leo hd) ⟨?_,rfl⟩;first|rfl|(rw[decide_eq_false Zm];rfl)
  |cons t r=>
  cases r with
  |nil=>
   have C1:∀h,aO Tryz.prog 129 [.str s] h (.tup [.sl (.agg 3) .free [.agg [.int .i64 t.k, .str t.t, .int .i64 t.a]], .int .i64 0, .int .i64 0]):=C0;have hk:(((1:Nat):Int)==1)=true:=rfl;have hk':(((0+1:Nat):Int)==1)=true:=rfl;have hbe:=eA t.t s
   (repeat' (first|(with_reducible first|refine stp ?_|refine cD ZM ?_|refine sS (fun _=>?_) (fun _=>?_))|((first|(with_reducible refine lM ?_;first|refine jS rfl ?_ ?_|refine aP (C1 _) rfl (aM _) ?_|refine Zx ?_)|(with_reducible refine lP ?_;first|refine jV rfl ?_ ?_|refine ZX ?_)|refine Zy ?_)<;>try simp only[g1,hk,hk',hbe,go_sem,reduceIte,jA,jB,jC,jD,reduceCtorEq,jE,jF])|refine ZY ?_|omega))
   all_goals refine aC h' (leo hd) ⟨vb ?_,rfl⟩
   ·rename_i q;have q:t.k=k:=by simpa using q
    by_cases q2:t.t=s
    ·have:=hsg rfl q q2;simp[q2,h2,this]
    have:t≠⟨k,s,0⟩:=fun e=>q2 (by rw[e]);simp[q2,this]
   rename_i q;have q:t.k≠k:=by simpa using q
   have:t≠⟨k,s,0⟩:=fun e=>q (by rw[e]);simp[this]
  |cons u r=>
   have C1:∀h,aO Tryz.prog 129 [.str s] h (.tup [.sl (.agg 3) .free (t.v::u.v::r.map Tk.v), .int .i64 0, .int .i64 0]):=C0;obtain⟨q,hq⟩:∃q,r.map Tk.v=q:=⟨_,rfl⟩;rw[hq] at C1;have hk:(((q.length+1+1:Nat):Int)==1)=false:=bqf;have hk':((q.length:Int)+1+1==1)=false:=bqf;refine aue (e3 g1 hk hk') ?_;refine aC h' (leo hd) ⟨?_,rfl⟩;first|rfl|(rw[decide_eq_false Zm];rfl)
theorem ui(s:ByteArray):cm 3 s=dp s:=by
 rw[Kd];unfold cm;rw[decide_eq_true_eq,qx qz];exact⟨fun h=>h.2,fun h=>⟨by have:=(of_decide_eq_true h).2.1;omega,h⟩⟩
theorem uj(s:ByteArray):cm 2 s=oa s:=by
 rw[Kd];unfold cm;rw[decide_eq_true_eq,qy qz];exact⟨fun h=>h.2,fun h=>⟨by have:=(of_decide_eq_true (of_decide_eq_true h).1).2.1;omega,h⟩⟩
theorem wV(s:ByteArray)(h:Hp):aO Tryz.prog 106 [.str s] h (.bool (dp s)):=by
 refine aI (fun L=>trivial) fun h' nx hh=>aB L.aSB fun hd=>?_;simp only[jL,jM,jA,jB,jN,jO,jP,jQ,Ka];have C1:=fun h=>vG s 3 ZM h;rw[ui] at C1;refine au ?_;exact aC h' (leo hd) ⟨rfl,rfl⟩
theorem i6(s:ByteArray)(h:Hp):aO Tryz.prog 79 [.str s] h (.bool (oa s)):=by
 refine aI (fun L=>trivial) fun h' nx hh=>aB L.aSh fun hd=>?_;simp only[jL,jM,jA,jB,jN,jO,jP,jQ,Ka];have C1:=fun h=>vG s 2 ZM h;rw[uj] at C1;refine au ?_;exact aC h' (leo hd) ⟨rfl,rfl⟩
theorem qY(t:Tr)(hl:t.w.s.size≤9223372036854775807)(h:Hp):aO Tryz.prog 78 [t.v] h (.bool (dG t)):=by
 refine aI (fun L=>trivial) fun h' nx hh=>aB L.aSi fun hd=>?_;simp only[jL,jM,jA,jB,jN,jO,jP,jQ,Ka];have C1:∀h,aO Tryz.prog 83 [.agg [.int .i64 t.w.k, .int .i64 t.w.n, .str t.w.s]] h (.bool (cF t.w)):=fun h=>kC t.w hl h;have C2:=fun h=>wV t.x h;have hz:=aw t.w;unfold dG;by_cases h1:t.x.size=0
 ·have g1:((t.x.size:Int)==0)=true:=bqt;refine aue (e2 Tr.v.eq_1 g1) ?_;refine aC h' (leo hd) ⟨?_,rfl⟩;rw[if_pos h1];rfl
 have g1:((t.x.size:Int)==0)=false:=bqf;rw[if_neg h1];cases h2:dp t.x with
 |true=>
  rw[h2] at C2;refine aue (e3 Tr.v.eq_1 g1 hz) ?_;refine aC h' (leo hd) ⟨?_,rfl⟩;rfl
 |false=>
  rw[h2] at C2;refine aue (e3 Tr.v.eq_1 g1 hz) ?_;refine aC h' (leo hd) ⟨?_,rfl⟩;rfl
theorem wU(e:Ex)(h:Hp):aO Tryz.prog 80 [e.v] h (.bool (kA e)):=by
 refine aI (fun L=>trivial) fun h' nx hh=>aB L.aSg fun hd=>?_;obtain⟨op,t,o,ks⟩:=e;rw[Ex.aAp];simp only[jL,jM,jA,jB,jN,jO,jP,jQ,Ka];have hz:=kI t;have k0:=kl0 ks;unfold kA
 (repeat' (first|(with_reducible first|refine stp ?_|refine cD ZM ?_|refine sS (fun _=>?_) (fun _=>?_))|((first|(with_reducible refine lM ?_;first|refine jS rfl ?_ ?_|refine Zx ?_)|(with_reducible refine lP ?_;first|refine jV rfl ?_ ?_|refine ZX ?_)|refine Zy ?_)<;>try simp only[Ex.cs.eq_1,Ex.op.eq_1,Ex.t.eq_1,Ex.o.eq_1,Ex.kids.eq_1,hz,k0,jK,go_sem,reduceIte,jA,jB,jC,jD,reduceCtorEq,jE,jF])|refine ZY ?_|omega))
 all_goals refine aC h' (leo hd) ⟨vb ?_,rfl⟩
 all_goals simp_all
set_option maxHeartbeats 4000000
def Tr.sm(t:Tr):Prop:=t.x.size≤9223372036854775807∧t.w.s.size≤9223372036854775807
mutual
def Ex.sm:Ex→Prop
 | .mk _ t _ ks=>t.sm∧Ex.sms ks
def Ex.sms:List Ex→Prop
 | []=>True
 |e::r=>e.sm∧Ex.sms r
end
def Am.sm(a:Am):Prop:=a.r.size≤9223372036854775807∧∀t∈a.l,t.sm
def Li.sm(l:Li):Prop:=l.a.sm∧l.x.sm∧l.y.sm
def Ru.sm(r:Ru):Prop:=r.h.sm∧∀l∈r.b,l.sm
theorem oB(n:Nat)(op:Int)(t:Tr)(o:Own)(ks:List Ex)(h:ks.length≠2):eL (n+1) (.mk op t o ks)=(if op=0 then decide (ks=[]∧dG t=true) else false):=by
 unfold eL;match ks,h with
 | [],_=>rfl
 | [a],_=>rfl
 | [a,b],h=>exact absurd rfl h
 |a::b::c::r,_=>rfl
theorem xB(n:Nat)(op:Int)(t:Tr)(o:Own)(a b:Ex):eL (n+1) (.mk op t o [a,b])=(if op=0 then false else decide (1≤op∧op≤3∧lU t=true∧eL n a=true∧eL n b=true)):=by
 conv=>lhs;unfold eL
 simp
theorem Bs(l:List Ex):((l.length:Int)==2)=decide (l.length=2):=by
 rw[Kd];simp;omega
theorem nz:∀(n:Nat) (hn:n≤100) (e:Ex) (he:e.sm) (h:Hp),aO Tryz.prog 108 [e.v, .int .i64 n] h (.bool (eL n e)):=by
 intro n;induction n with
 |zero=>
  intro hn e he h;refine aI (fun L=>trivial) fun h' nx hh=>aB L.aQo fun hd=>?_;obtain⟨op,t,o,ks⟩:=e;rw[Ex.aAp];simp only[jL,jM,jA,jB,jN,jO,jP,jQ,Ka];have hz:=kI t;have k0:=kl0 ks;have k2:=Bs ks;have hn0:decide ((0:Int)<((0:Nat):Int))=false:=rfl;have hn1:decide ((0:Int)<0)=false:=rfl;have C1:∀h,aO Tryz.prog 78 [.agg [.str t.x, .int .i64 t.w.k, .int .i64 t.w.n, .str t.w.s]] h (.bool (dG t)):=fun h=>qY t he.1.2 h;unfold eL
  (repeat' (first|(with_reducible first|refine stp ?_|refine cD ZM ?_|refine sS (fun _=>?_) (fun _=>?_))|((first|(with_reducible refine lM ?_;first|refine jS rfl ?_ ?_|refine aP (C1 _) rfl (aM _) ?_|refine Zx ?_)|(with_reducible refine lP ?_;first|refine jV rfl ?_ ?_|refine ZX ?_)|refine Zy ?_)<;>try simp only[Ex.cs.eq_1,Ex.op.eq_1,Ex.t.eq_1,Ex.o.eq_1,Ex.kids.eq_1,hz,k0,k2,hn0,hn1,jK,go_sem,reduceIte,jA,jB,jC,jD,reduceCtorEq,jE,jF])|refine ZY ?_|omega))
  all_goals refine aC h' (leo hd) ⟨vb ?_,rfl⟩
  all_goals simp_all
 |succ n ih=>
  intro hn e he h;refine aI (fun L=>trivial) fun h' nx hh=>aB L.aQo fun hd=>?_;obtain⟨op,t,o,ks⟩:=e;rw[Ex.aAp];simp only[jL,jM,jA,jB,jN,jO,jP,jQ,Ka];have hz:=kI t;have k0:=kl0 ks;have hn0:decide ((0:Int)<((n+1:Nat):Int))=true:=dct;have hn1:decide ((0:Int)<(n:Int)+1)=true:=dct;have C1:∀h,aO Tryz.prog 78 [.agg [.str t.x, .int .i64 t.w.k, .int .i64 t.w.n, .str t.w.s]] h (.bool (dG t)):=fun h=>qY t he.1.2 h;have hw:IntKind.i64.wrap (((n+1:Nat):Int)-1)=(n:Int):=wrp;have hw':IntKind.i64.wrap ((n:Int)+1-1)=(n:Int):=wrp;by_cases hk:ks.length=2
  ·obtain⟨a,b,rfl⟩:∃a b,ks=[a,b]:=by
    match ks,hk with
    | [a,b],_=>exact⟨a,b,rfl⟩
   rw[xB];have C2:=fun h=>ih or a he.2.1 h;have C3:=fun h=>ih or b he.2.2.1 h;have ha:=Ex.aAA a;have hb:=Ex.aAA b;have hm: [a,b].map Ex.v=[a.v,b.v]:=rfl;have hl:(((0+1+1:Nat):Int)==0)=false:=rfl;have hl2:(((0+1+1:Nat):Int)==2)=true:=rfl;clear k0
   (repeat' (first|(with_reducible first|refine stp ?_|refine cD ZM ?_|refine sS (fun _=>?_) (fun _=>?_))|((first|(with_reducible refine lM ?_;first|refine jS rfl ?_ ?_|refine aP (C1 _) rfl (aM _) ?_|refine aP (C2 _) rfl (aM _) ?_|refine aP (C3 _) rfl (aM _) ?_|refine Zx ?_)|(with_reducible refine lP ?_;first|refine jV rfl ?_ ?_|refine ZX ?_)|refine Zy ?_)<;>try simp only[Ex.cs.eq_1,Ex.op.eq_1,Ex.t.eq_1,Ex.o.eq_1,Ex.kids.eq_1,hz,hm,ha,hb,hl,hl2,hn0,hn1,hw,hw',go_sem,reduceIte,jA,jB,jC,jD,reduceCtorEq,jE,jF])|refine ZY ?_|omega))
   all_goals refine aC h' (leo hd) ⟨vb ?_,rfl⟩
   all_goals try simp_all
   all_goals try (intros;omega)
  rw[oB _ _ _ _ _ hk];have k2':((ks.length:Int)==2)=false:=bqf
  (repeat' (first|(with_reducible first|refine stp ?_|refine cD ZM ?_|refine sS (fun _=>?_) (fun _=>?_))|((first|(with_reducible refine lM ?_;first|refine jS rfl ?_ ?_|refine aP (C1 _) rfl (aM _) ?_|refine Zx ?_)|(with_reducible refine lP ?_;first|refine jV rfl ?_ ?_|refine ZX ?_)|refine Zy ?_)<;>try simp only[Ex.cs.eq_1,Ex.op.eq_1,Ex.t.eq_1,Ex.o.eq_1,Ex.kids.eq_1,hz,k0,k2',hn0,hn1,jK,go_sem,reduceIte,jA,jB,jC,jD,reduceCtorEq,jE,jF])|refine ZY ?_|omega))
  all_goals refine aC h' (leo hd) ⟨vb ?_,rfl⟩
  all_goals simp_all
theorem wZ(e:Ex)(he:e.sm)(h:Hp):aO Tryz.prog 81 [e.v] h (.bool (iN e)):=by
 refine aI (fun L=>trivial) fun h' nx hh=>aB L.aSW fun hd=>?_;have hv:=Ex.aAp e;have C1:∀h,aO Tryz.prog 108 [.agg e.cs, .int .i64 20] h (.bool (eL 20 e)):=fun h=>hv▸nz 20 or e he h;rw[hv];simp only[jL,jM,jA,jB,jN,jO,jP,jQ,Ka];refine aue Ex.cs.eq_1 ?_;exact aC h' (leo hd) ⟨rfl,rfl⟩
theorem vJ(a:Am)(ha:a.sm)(h:Hp):aO Tryz.prog 47 [a.v] h (.bool (iO a)):=by
 refine aI (fun L=>trivial) fun h' nx hh=>aB L.aTH fun hd=>?_;obtain⟨r,o,l⟩:=a;simp only[jL,jM,jA,jB,jN,jO,jP,jQ,Ka];have C1:=fun h=>i6 r h;refine aue Am.v.eq_1 ?_;refine aT (fun i:Nat=>aD 25 0 [(1, .ptr nx (.agg 2) 0 0),(2, .bool false),(3, .int .i64 i)]) (fun i hp nx1=>i≤l.length∧i≤6∧hp=h'.set nx (.arr (.agg 2) [.agg [.str r,trs o l]])∧nx<nx1∧∀t∈l.take i,dG t=true) (fun i=>l.length-i) 0 ⟨Kc _,or,rfl,Zw,Zm⟩ (by simp only[WkL,aD,jH,jI,jJ,go_sem,reduceIte,jA,jB,jC,jD,reduceCtorEq,jE,jF]) ?_;rintro i hp nx1 ⟨hi,hi6,rfl,hlt1,hno⟩;generalize hQ:bB _ _ _ _ _=Q0;simp only[aD,go_sem,reduceIte,jA,jB,jC,jD,reduceCtorEq,jE,jF];rcases Kf i l.length with hlt|hge
 ·have hc:decide ((i:Int)<(l.length:Int))=true:=dct;have hg:=aR Tr.v l i hlt;have hw:IntKind.i64.wrap ((i:Int)+1)=((i+1:Nat):Int):=wrp;have hin:l[i]∈l:=Kj _;by_cases h5:5<i
  ·have g1:decide ((5:Int)<(i:Int))=true:=dct;refine aue (e4 hc g1 hlt (@jK Tr V)) ?_;rw[←hQ];refine au ?_;refine aC h' (leo hd) ⟨vb ?_,rfl⟩;have:¬l.length≤6:=or;simp[iO,this]
  have g1:decide ((5:Int)<(i:Int))=false:=dcf;have C2:=fun h=>qY l[i] (ha.2 _ hin).2 h;cases k:dG l[i] with
  |true=>
   rw[k] at C2;refine aue (e8 hc g1 hlt hg hw (@jK Tr V) jG Tr.aAA) ?_;rw[←hQ];refine aH (i+1) or ⟨or,or,rfl,or,fun t ht=>?_⟩ (by simp only[WkL,aD,jH,jI,jJ,go_sem,reduceIte,jA,jB,jC,jD,reduceCtorEq,jE,jF]);rw[List.take_succ_eq_append_getElem hlt,List.mem_append,List.mem_singleton] at ht;rcases ht with ht|rfl
   ·exact hno t ht
   exact k
  |false=>
   rw[k] at C2;refine aue (e8 hc g1 hlt hg hw (@jK Tr V) jG Tr.aAA) ?_;rw[←hQ];refine au ?_;refine aC h' (leo hd) ⟨vb ?_,rfl⟩;have:l.all dG=false:=List.all_eq_false.2 ⟨_,hin,by simp[k]⟩;simp[iO,this]
 have hc:decide ((i:Int)<(l.length:Int))=false:=dcf;refine aue (e2 hc (@jK Tr V)) ?_;rw[←hQ];refine au ?_;have hil:i=l.length:=or;rw[hil,List.take_length] at hno;refine aC h' (leo hd) ⟨vb ?_,rfl⟩;have h1:l.all dG=true:=List.all_eq_true.2 hno;have h2:l.length≤6:=or;simp[iO,h1,h2]
theorem np(l:Li)(hl:l.sm)(h:Hp):aO Tryz.prog 48 [l.v] h (.bool (fE l)):=by
 refine aI (fun L=>trivial) fun h' nx hh=>aB L.aTA fun hd=>?_;rw[Li.aAp];simp only[jL,jM,jA,jB,jN,jO,jP,jQ,Ka];have C1:∀h:Hp,aO Tryz.prog 47 [.agg [.str l.a.r, .sl (.agg 4) l.a.o (l.a.l.map Tr.v)]] h (.bool (iO l.a)):=fun h=>vJ l.a hl.1 h;have N1:∀h:Hp,aO Tryz.prog 80 [.agg [.int .i64 l.x.op, .str l.x.t.x, .int .i64 l.x.t.w.k, .int .i64 l.x.t.w.n, .str l.x.t.w.s, .sl (.agg 6) l.x.o (l.x.kids.map Ex.v)]] h (.bool (kA l.x)):=fun h=>Ex.aAp l.x▸wU l.x h;have N2:∀h:Hp,aO Tryz.prog 80 [.agg [.int .i64 l.y.op, .str l.y.t.x, .int .i64 l.y.t.w.k, .int .i64 l.y.t.w.n, .str l.y.t.w.s, .sl (.agg 6) l.y.o (l.y.kids.map Ex.v)]] h (.bool (kA l.y)):=fun h=>Ex.aAp l.y▸wU l.y h;have X1:∀h:Hp,aO Tryz.prog 81 [.agg [.int .i64 l.x.op, .str l.x.t.x, .int .i64 l.x.t.w.k, .int .i64 l.x.t.w.n, .str l.x.t.w.s, .sl (.agg 6) l.x.o (l.x.kids.map Ex.v)]] h (.bool (iN l.x)):=fun h=>Ex.aAp l.x▸wZ l.x hl.2.1 h;have X2:∀h:Hp,aO Tryz.prog 81 [.agg [.int .i64 l.y.op, .str l.y.t.x, .int .i64 l.y.t.w.k, .int .i64 l.y.t.w.n, .str l.y.t.w.s, .sl (.agg 6) l.y.o (l.y.kids.map Ex.v)]] h (.bool (iN l.y)):=fun h=>Ex.aAp l.y▸wZ l.y hl.2.2 h;have s0:((l.a.r.size:Int)==0)=decide (l.a.r.size=0):=by rw[Kd];simp
 have k0:=kn0 l.a.l;unfold fE
 (repeat' (first|(with_reducible first|refine stp ?_|refine cD ZM ?_|refine sS (fun _=>?_) (fun _=>?_))|((first|(with_reducible refine lM ?_;first|refine jS rfl ?_ ?_|refine aP (C1 _) rfl (aM _) ?_|refine aP (N1 _) rfl (aM _) ?_|refine aP (N2 _) rfl (aM _) ?_|refine aP (X1 _) rfl (aM _) ?_|refine aP (X2 _) rfl (aM _) ?_|refine Zx ?_)|(with_reducible refine lP ?_;first|refine jV rfl ?_ ?_|refine ZX ?_)|refine Zy ?_)<;>try simp only[s0,k0,jK,go_sem,reduceIte,jA,jB,jC,jD,reduceCtorEq,jE,jF])|refine ZY ?_|omega))
 all_goals refine aC h' (leo hd) ⟨vb ?_,rfl⟩
 all_goals simp_all
 all_goals try omega
end Go.Proofs.YtjfdoohogiojcaaGreatDoor
namespace Go.Proofs.YtjfdoohogiojcaaGreatDoor
open Go.RowKit Go.Sort
attribute [local irreducible] IntKind.wrap
set_option maxHeartbeats 4000000
def qR:Vl:=⟨0,0,⟨#[]⟩⟩
def eE(t:Tr)(l:List Tr):Vl×Int:=
 if t.x.size=0 then (if cF t.w=true then (t.w,0) else (qR,2))
 else match lkB t.x l with
  |some w=>if cF w=true then (w,0) else (qR,13)
  |none=>(qR,13)
theorem qi(t:Tr)(l:List Tr)(n:Nat)(es:List ME)(c:Nat)(h:Hp)(hm:h n=some (.mp es c))(he:pE es l):aO Tryz.prog 40 [t.v, .map n] h (.tup [(eE t l).1.v,gY (eE t l).2]):=by
 refine aI (fun L=>⟨Vl.aAI L _,rF L _,trivial⟩) fun h' nx hh=>aB L.aTL fun hd=>?_;simp only[jL,jM,jA,jB,jN,jO,jP,jQ,Ka];have hn1:=hh _ _ hm rfl;have hn2:n<nx:=hd _ _ hn1;have h0:=mt t.x;unfold eE;by_cases h1:t.x.size=0
 ·have g1:decide (t.x.size=0)=true:=dct;rw[if_pos h1];have C1:∀h,aO Tryz.prog 57 [.agg [.int .i64 t.w.k, .int .i64 t.w.n, .str t.w.s]] h (.bool (cF t.w)):=fun h=>lF t.w h;cases k:cF t.w with
  |true=>
   rw[k] at C1;refine aue (e3 Tr.v.eq_1 h0 g1) ?_;refine aL (by simp only[go_sem,reduceIte,jA,jB,jC,jD,reduceCtorEq,jE,jF]) h' (leo hd) ⟨?_,rfl⟩;refine Zn ?_;rfl
  |false=>
   rw[k] at C1;refine aue (e3 Tr.v.eq_1 h0 g1) ?_;refine aL (by simp only[go_sem,reduceIte,jA,jB,jC,jD,reduceCtorEq,jE,jF]) h' (leo hd) ⟨?_,rfl⟩;refine Zn ?_;rfl
 have g1:decide (t.x.size=0)=false:=dcf;rw[if_neg h1];have hx:=he t.x;cases k:lkB t.x l with
 |none=>
  rw[k] at hx;have hg0:vL true (.agg [.int .i64 0, .int .i64 0, .str ⟨#[]⟩]) es none= .tup [.agg [.int .i64 0, .int .i64 0, .str ⟨#[]⟩], .bool false]:=rfl;refine aue (e7 Tr.v.eq_1 h0 g1 hn1 hn2 hx hg0) ?_;refine aL (by simp only[go_sem,reduceIte,jA,jB,jC,jD,reduceCtorEq,jE,jF]) h' (leo hd) ⟨?_,rfl⟩;refine Zn ?_;rfl
 |some w=>
  rw[k] at hx;obtain⟨j,hj1,hj2,hj3⟩:=hx;have hg0:vL true (.agg [.int .i64 0, .int .i64 0, .str ⟨#[]⟩]) es (some j)= .tup [w.v, .bool true]:=by rw[←hj2];rfl
  have C1:=fun h=>lF w h;have hwf:=Vl.aAA w;simp only;cases k2:cF w with
  |true=>
   rw[k2] at C1;refine aue (e8 Tr.v.eq_1 h0 g1 hn1 hn2 hj1 hg0 hwf) ?_;refine aL (by simp only[hwf,aQ hwf,go_sem,reduceIte,jA,jB,jC,jD,reduceCtorEq,jE,jF]) h' (leo hd) ⟨?_,rfl⟩;simp only[hwf,aQ hwf,go_sem,reduceIte,jA,jB,jC,jD,reduceCtorEq,jE,jF];rfl
  |false=>
   rw[k2] at C1;refine aue (e8 Tr.v.eq_1 h0 g1 hn1 hn2 hj1 hg0 hwf) ?_;refine aL (by simp only[go_sem,reduceIte,jA,jB,jC,jD,reduceCtorEq,jE,jF]) h' (leo hd) ⟨?_,rfl⟩;refine Zn ?_;rfl
theorem s5(x:ByteArray)(o:Own)(l:List Tr)(hl:l.length≤1000000)(h:Hp):aO Tryz.prog 82 [trs o l, .str x] h (match lkB x l with|some w=> .tup [w.v, .bool true]|none=> .tup [qR.v, .bool false]):=by
 have hnm:∀L,(match lkB x l with|some w=>V.tup [w.v, .bool true]|none=> .tup [qR.v, .bool false]).names L:=fun L=>by
  split
  ·exact⟨Vl.aAI L _,trivial,trivial⟩
  exact⟨Vl.aAI L _,trivial,trivial⟩
 refine aI hnm fun h' nx hh=>aB L.aSV fun hd=>?_;simp only[jL,jM,jA,jB,jN,jO,jP,jQ,Ka];refine aue (e2 trs.eq_1 (@jK Tr V)) ?_
 refine aT (fun i:Nat=>aD 26 0 [(0, .sl (.agg 4) o (l.map Tr.v)),(1, .str x),(4, .ptr nx (.agg 3) 0 0),(5, .bool false),(6, .int .i64 i)])
  (fun i hp nx1=>i≤l.length∧hp=h'.set nx (.arr (.agg 3) [.agg [.int .i64 0, .int .i64 0, .str ⟨#[]⟩]])∧nx<nx1∧lkB x l=lkB x (l.drop i))
  (fun i=>l.length-i) 0 ⟨Kc _,rfl,Zw,rfl⟩ (by simp only[WkL,aD,jH,jI,jJ,go_sem,reduceIte,jA,jB,jC,jD,reduceCtorEq,jE,jF]) ?_
 rintro i hp nx1 ⟨hi,rfl,hlt1,hlk⟩;generalize hQ:bB _ _ _ _ _=Q0;simp only[aD,go_sem,reduceIte,jA,jB,jC,jD,reduceCtorEq,jE,jF];rcases Kf i l.length with hlt|hge
 ·have hc:decide ((i:Int)<(l.length:Int))=true:=dct;have hg:=aR Tr.v l i hlt;have hw:IntKind.i64.wrap ((i:Int)+1)=((i+1:Nat):Int):=wrp;have hdr:l.drop i=l[i]::l.drop (i+1):=Kb hlt;have hbe:=eA l[i].x x;rw[hdr] at hlk;simp only[lkB] at hlk;cases k:decide (l[i].x=x) with
  |true=>
   rw[k] at hbe;rw[if_pos (of_decide_eq_true k)] at hlk;refine aue (e8 hc hg hlt hbe Tr.v.eq_1 (@jK Tr V) jG hlt1) ?_;rw[←hQ];refine au ?_;refine aL (by simp only[hlt1,go_sem,reduceIte,jA,jB,jC,jD,reduceCtorEq,jE,jF]) h' (leo hd) ⟨?_,rfl⟩;simp only[hlt1,go_sem,reduceIte,jA,jB,jC,jD,reduceCtorEq,jE,jF];rw[hlk];rfl
  |false=>
   rw[k] at hbe;rw[if_neg (of_decide_eq_false k)] at hlk;refine aue (e9 hc hg hlt hbe Tr.v.eq_1 (@jK Tr V) jG hlt1 hw) ?_;rw[←hQ];exact aH (i+1) or ⟨hlt,rfl,or,hlk⟩ (by simp only[WkL,aD,jH,jI,jJ,go_sem,reduceIte,jA,jB,jC,jD,reduceCtorEq,jE,jF])
 have hc:decide ((i:Int)<(l.length:Int))=false:=dcf;refine aue (e3 hc hlt1 (@jK Tr V)) ?_;rw[←hQ];refine aue (e2 hc hlt1) ?_;rw[List.drop_eq_nil_of_le hge] at hlk;refine aL (by simp only[hlt1,go_sem,reduceIte,jA,jB,jC,jD,reduceCtorEq,jE,jF]) h' (leo hd) ⟨?_,rfl⟩;simp only[hlt1,go_sem,reduceIte,jA,jB,jC,jD,reduceCtorEq,jE,jF];rw[hlk];rfl
def smB(l:List Tr):Prop:=∀t∈l,t.w.s.size≤9223372036854775807
theorem yd{l:List Tr}(h:smB l){x:ByteArray}{w:Vl}(hk:lkB x l=some w):w.s.size≤9223372036854775807:=by
 induction l with
 |nil=>cases hk
 |cons t r ih=>
  simp only[lkB] at hk;split at hk
  ·injection hk with hk;rw[←hk];exact h t List.mem_cons_self
  exact ih (fun t ht=>h t (List.mem_cons_of_mem _ ht)) hk
theorem ei(t:Tr)(ht:t.w.s.size≤9223372036854775807)(o:Own)(l:List Tr)(hl:l.length≤1000000)(hsm:smB l)(h:Hp):aO Tryz.prog 49 [t.v,trs o l] h (.tup [(eE t l).1.v, .int .i64 (eE t l).2]):=by
 refine aI (fun L=>⟨Vl.aAI L _,trivial,trivial⟩) fun h' nx hh=>aB L.aS9 fun hd=>?_;simp only[jL,jM,jA,jB,jN,jO,jP,jQ,Ka];unfold eE;by_cases h1:t.x.size=0
 ·have g1:decide ((0:Int)<(t.x.size:Int))=false:=dcf;rw[if_pos h1];have C1:∀h,aO Tryz.prog 83 [.agg [.int .i64 t.w.k, .int .i64 t.w.n, .str t.w.s]] h (.bool (cF t.w)):=fun h=>kC t.w ht h;cases k:cF t.w with
  |true=>
   rw[k] at C1;refine aue (e2 Tr.v.eq_1 g1) ?_;refine aL (by simp only[go_sem,reduceIte,jA,jB,jC,jD,reduceCtorEq,jE,jF]) h' (leo hd) ⟨?_,rfl⟩;refine Zn ?_;try rfl
  |false=>
   rw[k] at C1;refine aue (e2 Tr.v.eq_1 g1) ?_;refine aL (by simp only[go_sem,reduceIte,jA,jB,jC,jD,reduceCtorEq,jE,jF]) h' (leo hd) ⟨?_,rfl⟩;refine Zn ?_;try rfl
 have g1:decide ((0:Int)<(t.x.size:Int))=true:=dct;rw[if_neg h1];have C2:=fun h=>s5 t.x o l hl h;cases k:lkB t.x l with
 |none=>
  rw[k] at C2;simp only at C2;have hwz:=Vl.aAA qR;refine aue (e3 Tr.v.eq_1 g1 hwz) ?_;refine aL (by simp only[go_sem,reduceIte,jA,jB,jC,jD,reduceCtorEq,jE,jF]) h' (leo hd) ⟨?_,rfl⟩;refine Zn ?_;try rfl
 |some w=>
  rw[k] at C2;have C1:=fun h=>kC w (yd hsm k) h;have hwf:=Vl.aAA w;simp only at C2⊢;cases k2:cF w with
  |true=>
   rw[k2] at C1;refine aue (e3 Tr.v.eq_1 g1 hwf) ?_;refine aL (by simp only[hwf,aQ hwf,go_sem,reduceIte,jA,jB,jC,jD,reduceCtorEq,jE,jF]) h' (leo hd) ⟨?_,rfl⟩;simp only[hwf,aQ hwf,go_sem,reduceIte,jA,jB,jC,jD,reduceCtorEq,jE,jF];try rfl
  |false=>
   rw[k2] at C1;refine aue (e3 Tr.v.eq_1 g1 hwf) ?_;refine aL (by simp only[go_sem,reduceIte,jA,jB,jC,jD,reduceCtorEq,jE,jF]) h' (leo hd) ⟨?_,rfl⟩;refine Zn ?_;try rfl
set_option maxHeartbeats 4000000
def mM(l:List Tr):List Vl→List Tr→List Vl×Int
 |acc,[]=>(acc,0)
 |acc,t::r=>if (eE t l).2≠0 then ([],(eE t l).2) else mM l (acc++[(eE t l).1]) r
def cP(a:Am)(l:List Tr):List Vl×Int:=if 6<a.l.length then ([],6) else mM l [] a.l
def okO(e:Int)(o:Own):Own:=if e=0 then o else .nil
theorem nA(l:List Tr)(acc:List Vl)(t:Tr)(r:List Tr):mM l acc (t::r)=if (eE t l).2≠0 then ([],(eE t l).2) else mM l (acc++[(eE t l).1]) r:=rfl
theorem lw(e:Int)(vs:List Vl)(L:Nat→Prop):(V.tup [.sl (.agg 3) (okO e .free) (vs.map Vl.v),gY e]).names L:=by
 refine⟨⟨?_,cN (fun x=>Vl.aAI L x) _⟩,rF L _,trivial⟩;intro n k;unfold okO at k;split at k<;>cases k
theorem qg(a:Am)(l:List Tr)(n:Nat)(es:List ME)(c:Nat)(h:Hp)(hm:h n=some (.mp es c))(he:pE es l):aO Tryz.prog 22 [a.v, .map n] h (.tup [.sl (.agg 3) (okO (cP a l).2 .free) ((cP a l).1.map Vl.v),gY (cP a l).2]):=by
 refine cB (fun L=>lw _ _ L) fun h' nx hh=>aB L.aTm fun hd=>?_;obtain⟨r,o,ts⟩:=a;simp only[jL,jM,jA,jB,jN,jO,jP,jQ,Ka];have hn1:=hh _ _ hm rfl;have hn2:n<nx:=hd _ _ hn1;unfold cP;dsimp only;by_cases h6:6<ts.length
 ·have g1:decide ((6:Int)<(ts.length:Int))=true:=dct;rw[if_pos h6];refine aue (e4 Am.v.eq_1 trs.eq_1 g1 (@jK Tr V)) ?_;refine aU _ (Hp.le_refl _) ⟨?_,leo hd⟩;refine Zn ?_;rfl
 have g1:decide ((6:Int)<(ts.length:Int))=false:=dcf;rw[if_neg h6];refine aue (e4 Am.v.eq_1 trs.eq_1 g1 (@jK Tr V)) ?_;generalize hRC:mI (lwp Tryz.prog ((aJ.ops L.aEE).seq aJ.ret)) _=RC
 refine aT (fun q:Nat×Nat×List Vl=>aD 42 0 [(1, .map n),(4, .sl (.agg 3) .nil []),(5, .nilIface),(6, .rs q.2.1 (.agg 3) 0 q.2.2.length),(21, .sl (.agg 4) o (ts.map Tr.v)),(22, .int .i64 ts.length),(23, .int .i64 q.1)])
  (fun q hp nx1=>q.1≤ts.length∧nx+1≤nx1∧aW hp nx1∧Hp.same nx h' hp∧(nx<q.2.1∧hp q.2.1=some (.arr (.agg 3) (q.2.2.map Vl.v)))∧mM l [] ts=mM l q.2.2 (ts.drop q.1)∧q.2.2.length≤q.1)
  (fun q=>ts.length-q.1) (0,nx+1,[]) ⟨Kc _,Zw,by exact dmo hd,by exact kep Hp.same.aAt,⟨Zw,by simp only[Kg,go_sem,reduceIte,jA,jB,jC,jD,reduceCtorEq,jE,jF]⟩,rfl,Kc _⟩ (by simp only[WkL,aD,jH,jI,jJ,jM,go_sem,reduceIte,jA,jB,jC,jD,reduceCtorEq,jE,jF]) ?_
 rintro⟨i,id,acc⟩ hp nx1 ⟨hi,hnx,hdm,hsm,⟨aRP,hid⟩,hmk,hlen⟩;generalize hQ:bB _ _ _ _ _=Q0;dsimp only at hi hid hmk hlen aRP;simp only[aD,go_sem,reduceIte,jA,jB,jC,jD,reduceCtorEq,jE,jF];have hle:=hsm.le hd (Hp.le_refl _);have hme:hp n=some (.mp es c):=by rw[hsm n hn2];exact hn1
 have aF5:id<nx1:=hdm _ _ hid;rcases Kf i ts.length with hlt|hge
 ·have hc:decide ((i:Int)<(ts.length:Int))=true:=dct;have hg:=aR Tr.v ts i hlt;have hw:IntKind.i64.wrap ((i:Int)+1)=((i+1:Nat):Int):=wrp;have hdr:ts.drop i=ts[i]::ts.drop (i+1):=Kb hlt;have hn3:n<nx1:=or;rw[hdr] at hmk;generalize ts[i]=T at hg hmk;have hTf:=Tr.aAA T;have hVf:=Vl.aAA (eE T l).1;refine aue (e9 hc hg hlt hme hn3 (@jK Tr V) jG hw hTf) ?_;refine aP (qi T l n es c _ (by simp only[hme,hn3,go_sem,reduceIte,jA,jB,jC,jD,reduceCtorEq,jE,jF]) he) rfl (aM _) ?_;refine Zn ?_;rw[nA] at hmk;by_cases hz:(eE T l).2=0
  ·rw[if_neg (by simp[hz])] at hmk;rw[hz];have hml:(acc.map Vl.v).length=acc.length:=jK ..;have htk:(acc.map Vl.v).take acc.length=acc.map Vl.v:=Kh Zm;have aGB:acc.length≤1000000:=or;refine aue (e9 yS hVf hw hid aF5 hml htk aGB hc) ?_;rw[←hQ];exact aH (i+1,nx1+5,acc++[(eE T l).1]) Zw ⟨hlt,or,dmo hdm,kep hsm,⟨Zw,by simp only[Ki,Km,Kg,go_sem,reduceIte,jA,jB,jC,jD,reduceCtorEq,jE,jF]⟩,hmk,by dsimp only;rw[Ke];simp only[jL,jM];omega⟩ (by simp only[WkL,aD,jH,jI,jJ,Ke,jL,jM,go_sem,reduceIte,jA,jB,jC,jD,reduceCtorEq,jE,jF])
  rw[if_pos hz] at hmk;have hev:gY (eE T l).2= .iface 83 (.int .i64 (eE T l).2):=by unfold gY;rw[if_neg hz]
  refine aue (e2 hev hVf) ?_;rw[←hQ,←hRC];refine au ?_;refine aU _ (Hp.le_refl _) ⟨?_,lef hd hle⟩;refine Zn ?_;rw[hmk];unfold okO;rw[if_neg hz,hev];rfl
 have hc:decide ((i:Int)<(ts.length:Int))=false:=dcf;refine aue hc ?_;rw[←hQ];refine au ?_;have hie:i=ts.length:=or;rw[hie,Kk] at hmk;simp only[mM] at hmk;rw[←hRC];refine iL (gQ (t:=6) (n:=id) (k:= .agg 3) (off:=0) (len:=acc.length) (es:=acc.map Vl.v) rfl hid Zm) ?_;have htk:(List.drop 0 (acc.map Vl.v)).take acc.length=acc.map Vl.v:=by rw[List.drop_zero];exact Kh Zm
 rw[htk];refine au ?_;refine aU _ (Hp.le_refl _) ⟨?_,?_⟩
 ·refine Zn ?_;rw[hmk];rfl
 refine fun m b e=>?_;have:=hd _ _ e;simp only[Hp.del];rw[if_neg or];exact hle m b e
theorem i7(e:Int)(vs:List Vl)(L:Nat→Prop):(V.tup [.sl (.agg 3) (okO e (frO vs)) (vs.map Vl.v), .int .i64 e]).names L:=by
 refine⟨⟨?_,cN (fun x=>Vl.aAI L x) _⟩,trivial,trivial⟩;intro n k;unfold okO at k;split at k
 ·unfold frO at k;split at k<;>cases k
 cases k
theorem ns(a:Am)(o2:Own)(l:List Tr)(hl:l.length≤1000000)(hsm:smB l)(hts:∀t∈a.l,t.w.s.size≤9223372036854775807)(h:Hp):aO Tryz.prog 26 [a.v,trs o2 l] h (.tup [.sl (.agg 3) (okO (cP a l).2 (frO (cP a l).1)) ((cP a l).1.map Vl.v), .int .i64 (cP a l).2]):=by
 refine cB (fun L=>i7 _ _ L) fun h' nx hh=>aB L.aTf fun hd=>?_;obtain⟨r,o,ts⟩:=a;simp only[jL,jM,jA,jB,jN,jO,jP,jQ,Ka];unfold cP;dsimp only;by_cases h6:6<ts.length
 ·have g1:decide ((6:Int)<(ts.length:Int))=true:=dct;rw[if_pos h6];refine aue (e4 Am.v.eq_1 trs.eq_1 g1 (@jK Tr V)) ?_;refine aU _ (Hp.le_refl _) ⟨?_,leo hd⟩;refine Zn ?_;rfl
 have g1:decide ((6:Int)<(ts.length:Int))=false:=dcf;rw[if_neg h6];refine aue (e4 Am.v.eq_1 trs.eq_1 g1 (@jK Tr V)) ?_
 refine aT (fun q:Nat×Own×List Vl=>aD 39 0 [(1,trs o2 l),(2, .ptr nx (.agg 2) 0 0),(4, .sl (.agg 3) .nil []),(5, .int .i64 0),(6, .sl (.agg 3) q.2.1 (q.2.2.map Vl.v)),(7, .int .i64 q.1)])
  (fun q hp nx1=>q.1≤ts.length∧nx+1≤nx1∧aW hp nx1∧Hp.same nx h' hp∧hp nx=some (.arr (.agg 2) [.agg [.str r, .sl (.agg 4) o (ts.map Tr.v)]])∧Acc hp (nx+1) q.2.1 (q.2.2.map Vl.v)∧mM l [] ts=mM l q.2.2 (ts.drop q.1)∧q.2.2.length≤q.1)
  (fun q=>ts.length-q.1) (0, .nil,[]) ⟨Kc _,Zw,by exact dmo hd,by exact kep Hp.same.aAt,by simp only[go_sem,reduceIte,jA,jB,jC,jD,reduceCtorEq,jE,jF], .inl ⟨rfl,rfl⟩,rfl,Kc _⟩ (by simp only[WkL,aD,jH,jI,jJ,trs,Kg,go_sem,reduceIte,jA,jB,jC,jD,reduceCtorEq,jE,jF]) ?_
 rintro⟨i,oo,ac⟩ hp nx1 ⟨hi,hnx,hdm,aBF,hbx,aAP,hmk,hlen⟩;generalize hQ:bB _ _ _ _ _=Q0;dsimp only at hi aAP hmk hlen;simp only[aD,go_sem,reduceIte,jA,jB,jC,jD,reduceCtorEq,jE,jF];have hle:=aBF.le hd (Hp.le_refl _);have n1:nx<nx1:=or;rcases Kf i ts.length with hlt|hge
 ·have hc:decide ((i:Int)<(ts.length:Int))=true:=dct;have hg:=aR Tr.v ts i hlt;have hw:IntKind.i64.wrap ((i:Int)+1)=((i+1:Nat):Int):=wrp;have hdr:ts.drop i=ts[i]::ts.drop (i+1):=Kb hlt;have aQj:=hts ts[i] (Kj _);rw[hdr] at hmk;generalize ts[i]=T at hg hmk aQj;have hTf:=Tr.aAA T;have hVf:=Vl.aAA (eE T l).1;have C1:∀h:Hp,aO Tryz.prog 49 [T.v, .sl (.agg 4) o2 (l.map Tr.v)] h (.tup [(eE T l).1.v, .int .i64 (eE T l).2]):=fun h=>ei T aQj o2 l hl hsm h;have aGB:ac.length≤1000000:=or;have aEf:∀H:Hp,H.aBW oo nx=H nx:=fun H=>pY fun id e=>by have:=aAP.ge id e;omega
  rw[nA] at hmk;by_cases hz:(eE T l).2=0
  ·rw[if_neg (by simp[hz])] at hmk;rw[hz] at C1;have z0:((0:Int) != 0)=false:=rfl;refine aue (e12 hc hg hlt n1 hbx (@jK Tr V) jG hw hTf hVf z0 (e4 aEf aGB (@jK Vl V) trs.eq_1)) ?_;rw[←hQ];exact aH (i+1,_,ac++[(eE T l).1]) Zw ⟨hlt,or,dmo hdm,vZ aBF aAP,by simp only[aEf,hbx,n1,go_sem,reduceIte,jA,jB,jC,jD,reduceCtorEq,jE,jF],by dsimp only;rw[Ki];exact Acc.new _ Zm or,hmk,by dsimp only;rw[Ke];simp only[jL,jM];omega⟩ (by simp only[WkL,aD,jH,jI,jJ,trs,Ki,Km,Kg,go_sem,reduceIte,jA,jB,jC,jD,reduceCtorEq,jE,jF])
  rw[if_pos hz] at hmk;have z0:((eE T l).2 != 0)=true:=bnt hz;refine aue (e12 hc hg hlt n1 hbx (@jK Tr V) jG hTf hVf z0 aGB trs.eq_1) ?_;rw[←hQ];refine au ?_;refine aU _ (Hp.le_refl _) ⟨?_,lef hd hle⟩;refine Zn ?_;rw[hmk];unfold okO;rw[if_neg hz];rfl
 have hc:decide ((i:Int)<(ts.length:Int))=false:=dcf;refine aue (e4 hc n1 hbx (@jK Tr V)) ?_;rw[←hQ];refine au ?_;have hie:i=ts.length:=or;rw[hie,Kk] at hmk;simp only[mM] at hmk;refine aU _ (Hp.le_refl _) ⟨?_,hle⟩;refine Zn ?_;rw[hmk];show _=V.tup [.sl (.agg 3) (frO ac) (ac.map Vl.v), .int .i64 0];rcases xF aAP with⟨rfl,e⟩|⟨id,rfl,e⟩<;>rw[e]<;>rfl
end Go.Proofs.YtjfdoohogiojcaaGreatDoor
