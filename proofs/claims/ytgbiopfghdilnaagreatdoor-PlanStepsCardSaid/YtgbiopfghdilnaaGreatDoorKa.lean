/-
Texts of this proof,one behind the other. No conditions.
-/
import Derived.WalkKit
import Derived.WalkSpells
open List renaming getD_eq_getElem?_getD→Ka,getElem?_eq_getElem→Kc,range→Kh,all_eq_true→Kj,getElem_mem→Kk,getElem?_take→Ky,getElem?_drop→Kz,length_cons→KB
open Nat renaming lt_of_lt_of_le→Kb,le_refl→Ki,le_trans→Ks,add_assoc→Ku,lt_or_ge→KD,ne_of_lt→KE,zero_add→KF
open Go.Result renaming andThen_ok→Kd
open Go renaming undef→Ke
open Go.Sem renaming run_bind→Kf,run_pure→Kp
open Bool renaming and_eq_true→Kg
open Option renaming bind_eq_some_iff→Km,bind_some→KC
open Array renaming getElem?_eq_getElem→Ko,getD_eq_getD_getElem?→Kt,getElem?_eq_none→Kv
open Go.World renaming shape?→Kq,cell?→Kx
open Go.Instr renaming loadAt→Kw,sureAddr→KA
set_option linter.unusedSimpArgs false
set_option linter.unusedVariables false
set_option linter.unusedSectionVars false
set_option maxHeartbeats 8000000
namespace Go.Proofs.YtgbiopfghdilnaaGreatDoor
theorem or{P:Prop}(h:P:=by omega):P:=h
theorem Zm{P:Prop}(h:P:=by simp):P:=h
theorem ZM{P:Prop}(h:P:=by decide):P:=h
theorem Zz{P:Prop}(h:P:=by kernel_rfl):P:=h
def gJ(l:List UInt8):Value:= .string ⟨l.toArray⟩
def GT:List (Nat×List Value):=
 (3,[gJ [114,101,108],gJ [105,110,116],gJ [115,121,109],gJ [110,111,116],gJ [99,111,117,110,116],gJ [115,117,109],gJ [109,105,110],gJ [109,97,120]])::
 (2,[gJ [58,45],gJ [33,61],gJ [60,61],gJ [62,61],gJ [40],gJ [41],gJ [44],gJ [46],gJ [61],gJ [60],gJ [62],gJ [43],gJ [45],gJ [42]])::
 (0,[gJ [99,111,117,110,116],gJ [115,117,109],gJ [109,105,110],gJ [109,97,120]])::
 (1,[gJ [61],gJ [33,61],gJ [60],gJ [60,61],gJ [62],gJ [62,61]])::
 (7,(Kh 20).map fun i=>Value.int .u64 ((10 ^ i:Nat):Int))::
  []
def GI:List Nat:=
 4::
 5::
  []
end Go.Proofs.YtgbiopfghdilnaaGreatDoor
namespace Go.Proofs.YtgbiopfghdilnaaGreatDoor
open Go.RowKit
inductive Sh where
 |leaf
 |agg (n:Nat)
 deriving DecidableEq,Inhabited
def Sh.size:Sh→Nat
 | .leaf=>1
 | .agg n=>n
inductive Own where
 |nil
 |full
 |tok (n:Nat)
 |free
 deriving DecidableEq,Inhabited
inductive V where
 |bool (b:Bool)
 |int (k:IntKind) (n:Int)
 |str (s:ByteArray)
 |nilPtr
 |ptr (n:Nat) (k:Sh) (i o:Nat)
 |ept (k:Sh) (es:List V) (i o:Nat)
 |sl (k:Sh) (own:Own) (es:List V)
 |rs (n:Nat) (k:Sh) (off len:Nat)
 |aAL
 |map (n:Nat)
 |aAN
 |chan (n:Nat)
 |fn (f:Fn) (first cap:List V)
 |aAY
 |yld (n:Nat)
 |iface (t:Nat) (v:V)
 |nilIface
 |agg (cs:List V)
 |tup (vs:List V)
 |top
 deriving Inhabited
def V.undef:V:= .tup []
def V.aAD:V→Bool
 | .agg _=>false
 | .tup _=>false
 | .top=>false
 |_=>true
def V.cells:V→List V
 | .agg cs=>cs
 |v=>[v]
def V.cell(e:V)(j:Nat):V:=e.cells.getD j V.undef
def V.fits:Sh→V→Bool
 | .leaf,v=>v.aAD
 | .agg n, .agg cs=>decide (cs.length=n)&&cs.all V.aAD
 | .agg _,_=>false
structure Ker where
 w:World
 mu:Nat→Nat
 imm:Nat→Nat
 tp:Nat→Nat
 live:Nat→Prop
 fro:Nat→Prop
def Ker.still(K:Ker)(b o:Nat):Prop:=K.fro b∨o<K.imm b
def gD(w:World)(b:Nat):Prop:=w.heap[b]?=some (.deferred (some []))
structure nP(F:Nat→Prop)(w w':World):Prop where
 os:w'.os=w.os
 tape:w'.tape=w.tape
 output:w'.output=w.output
 drawn:w.drawn≤w'.drawn
 size:w.heap.size≤w'.heap.size
 block:∀b,b<w.heap.size→F b∨gD w b→w'.heap[b]?=w.heap[b]?
theorem nP.refl(F:Nat→Prop)(w:World):nP F w w:=⟨rfl,rfl,rfl,Ki _,Ki _,fun _ _ _=>rfl⟩
theorem nP.trans{F:Nat→Prop}{a b c:World}(h:nP F a b)(k:nP F b c):nP F a c:=
 ⟨k.os.trans h.os,k.tape.trans h.tape,k.output.trans h.output,Ks h.drawn k.drawn,Ks h.size k.size,fun i hi hF=>(k.block i (Kb hi h.size) (hF.imp (fun h=>h) fun hm=>(h.block i hi (.inr hm)).trans hm)).trans (h.block i hi hF)⟩
theorem nP.drew{F:Nat→Prop}(w:World):nP F w w.drew:=⟨rfl,rfl,rfl,Nat.le_succ _,Ki _,fun _ _ _=>rfl⟩
theorem nP.alloc{F:Nat→Prop}(w:World)(o:Obj):nP F w (w.alloc o):=⟨rfl,rfl,rfl,Ki _,Zm,fun k hk _=>Below.heap_alloc w o k hk⟩
inductive VR(K:Ker):V→Value→Prop where
 |bool (b:Bool):VR K (.bool b) (.bool b)
 |int (k:IntKind) (n:Int):VR K (.int k n) (.int k n)
 |str (s:ByteArray):VR K (.str s) (.string s)
 |nilPtr:VR K .nilPtr (.pointer none)
 |ptr (n:Nat) (k:Sh) (i o:Nat) (h:K.live n):VR K (.ptr n k i o) (.pointer (some ⟨K.mu n,i*k.size+o,none⟩))
 |ept (k:Sh) (es:List V) (i o b off:Nat) (f:Nat→Value) (hb:b<K.w.heap.size) (aAJ:∀e∈es,e.fits k=true)
  (hcell:∀j,j<es.length*k.size→K.w.cell? ⟨b,off+j,none⟩=some (f j)) (hst:∀j,j<es.length*k.size→K.still b (off+j))
  (hv:∀i,i<es.length→∀j,j<k.size→VR K ((es.getD i V.undef).cell j) (f (i*k.size+j))):
  VR K (.ept k es i o) (.pointer (some ⟨b,off+(i*k.size+o),none⟩))
 |slnil (k:Sh):VR K (.sl k .nil []) (.slice none 0 0)
 |slz (k:Sh) (a:Addr):VR K (.sl k .free []) (.slice (some a) 0 0)
 |sl (k:Sh) (own:Own) (es:List V) (b off cap:Nat) (f:Nat→Value) (hb:b<K.w.heap.size) (aAJ:∀e∈es,e.fits k=true)
  (hcell:∀j,j<es.length*k.size→K.w.cell? ⟨b,off+j,none⟩=some (f j)) (hst:∀j,j<es.length*k.size→K.still b (off+j))
  (hv:∀i,i<es.length→∀j,j<k.size→VR K ((es.getD i V.undef).cell j) (f (i*k.size+j)))
  (hcap:es.length≤cap) (aAl:own≠ .nil) (aAg:own= .full→cap=es.length)
  (aA8:∀n,own= .tok n→K.live n∧(cap=es.length∨K.mu n=b∧K.tp n=off+es.length*k.size∧∃T m,K.w.shape? b=some (T,m)∧off+cap*k.size≤m)):
  VR K (.sl k own es) (.slice (some ⟨b,off,none⟩) es.length cap)
 |rs (n:Nat) (k:Sh) (off len cap:Nat) (h:K.live n) (hcap:len≤cap) (hm:∃T m,K.w.shape? (K.mu n)=some (T,m)∧(off+cap)*k.size=m):
  VR K (.rs n k off len) (.slice (some ⟨K.mu n,off*k.size,none⟩) len cap)
 |aAL:VR K .aAL (.map none)
 |map (n:Nat) (h:K.live n):VR K (.map n) (.map (some (K.mu n)))
 |aAN:VR K .aAN (.chan none)
 |chan (n:Nat) (h:K.live n):VR K (.chan n) (.chan (some (K.mu n)))
 |fn (f:Fn) (first cap:List V) (cfirst ccap:Array Value) (h1:first.length=cfirst.size) (h2:cap.length=ccap.size)
  (v1:∀i,i<first.length→VR K (first.getD i V.undef) (cfirst.getD i Ke)) (v2:∀i,i<cap.length→VR K (cap.getD i V.undef) (ccap.getD i Ke)):
  VR K (.fn f first cap) (.func f cfirst ccap)
 |aAY:VR K .aAY .nilFunc
 |yld (n:Nat) (h:K.live n):VR K (.yld n) (.func (.yield (K.mu n)) #[] #[])
 |iface (t:Nat) (v:V) (cv:Value) (h:VR K v cv):VR K (.iface t v) (.iface t cv)
 |nilIface:VR K .nilIface .nilIface
 |agg (cs:List V) (ccs:Array Value) (h:cs.length=ccs.size) (v:∀i,i<cs.length→VR K (cs.getD i V.undef) (ccs.getD i Ke)):VR K (.agg cs) (.agg ccs)
 |tup (cs:List V) (ccs:Array Value) (h:cs.length=ccs.size) (v:∀i,i<cs.length→VR K (cs.getD i V.undef) (ccs.getD i Ke)):VR K (.tup cs) (.tuple ccs)
 |top (cv:Value):VR K .top cv
structure Ker.le(K K':Ker):Prop where
 live:∀n,K.live n→K'.live n
 mu:∀n,K.live n→K'.mu n=K.mu n
 tp:∀n,K.live n→K'.tp n=K.tp n
 fro:K'.fro=K.fro
 imm:∀b,b<K.w.heap.size→K.imm b≤K'.imm b
 cell:∀b o,b<K.w.heap.size→K.still b o→K'.w.cell? ⟨b,o,none⟩=K.w.cell? ⟨b,o,none⟩
 shape:∀b,b<K.w.heap.size→K'.w.shape? b=K.w.shape? b
 below:nP K.fro K.w K'.w
theorem Ker.le.refl(K:Ker):K.le K:=⟨fun _ h=>h,fun _ _=>rfl,fun _ _=>rfl,rfl,fun _ _=>Ki _,fun _ _ _ _=>rfl,fun _ _=>rfl,nP.refl _ _⟩
theorem Ker.le.still{K K':Ker}(h:K.le K'){b o:Nat}(hb:b<K.w.heap.size)(hs:K.still b o):K'.still b o:=by
 rcases hs with hs|hs
 ·exact .inl (by rw[h.fro];exact hs)
 exact .inr (Kb hs (h.imm b hb))
theorem Ker.le.trans{K K' K'':Ker}(h:K.le K')(h':K'.le K''):K.le K'' where
 live n hn:=h'.live n (h.live n hn)
 mu n hn:=(h'.mu n (h.live n hn)).trans (h.mu n hn)
 tp n hn:=(h'.tp n (h.live n hn)).trans (h.tp n hn)
 fro:=h'.fro.trans h.fro
 imm b hb:=Ks (h.imm b hb) (h'.imm b (Kb hb h.below.size))
 cell b o hb hs:=(h'.cell b o (Kb hb h.below.size) (h.still hb hs)).trans (h.cell b o hb hs)
 shape b hb:=(h'.shape b (Kb hb h.below.size)).trans (h.shape b hb)
 below:=h.below.trans (h.fro▸h'.below)
structure Ker.leV(K K':Ker):Prop where
 live:∀n,K.live n→K'.live n
 mu:∀n,K.live n→K'.mu n=K.mu n
 tp:∀n,K.live n→K'.tp n=K.tp n
 fro:K'.fro=K.fro
 imm:∀b,b<K.w.heap.size→K.imm b≤K'.imm b
 cell:∀b o,b<K.w.heap.size→K.still b o→K'.w.cell? ⟨b,o,none⟩=K.w.cell? ⟨b,o,none⟩
 shape:∀b,b<K.w.heap.size→K'.w.shape? b=K.w.shape? b
 size:K.w.heap.size≤K'.w.heap.size
theorem Ker.le.toV{K K':Ker}(h:K.le K'):K.leV K':=⟨h.live,h.mu,h.tp,h.fro,h.imm,h.cell,h.shape,h.below.size⟩
theorem Ker.leV.refl(K:Ker):K.leV K:=(Ker.le.refl K).toV
theorem Ker.leV.still{K K':Ker}(h:K.leV K'){b o:Nat}(hb:b<K.w.heap.size)(hs:K.still b o):K'.still b o:=by
 rcases hs with hs|hs
 ·exact .inl (by rw[h.fro];exact hs)
 exact .inr (Kb hs (h.imm b hb))
theorem Ker.leV.trans{K K' K'':Ker}(h:K.leV K')(h':K'.leV K''):K.leV K'' where
 live n hn:=h'.live n (h.live n hn)
 mu n hn:=(h'.mu n (h.live n hn)).trans (h.mu n hn)
 tp n hn:=(h'.tp n (h.live n hn)).trans (h.tp n hn)
 fro:=h'.fro.trans h.fro
 imm b hb:=Ks (h.imm b hb) (h'.imm b (Kb hb h.size))
 cell b o hb hs:=(h'.cell b o (Kb hb h.size) (h.still hb hs)).trans (h.cell b o hb hs)
 shape b hb:=(h'.shape b (Kb hb h.size)).trans (h.shape b hb)
 size:=Ks h.size h'.size
theorem VR.aAq{K K':Ker}(h:K.leV K'){v:V}{cv:Value}(r:VR K v cv):VR K' v cv:=by
 induction r with
 |bool b=>exact .bool b
 |int k n=>exact .int k n
 |str s=>exact .str s
 |nilPtr=>exact .nilPtr
 |ptr n k i o hn=>rw[←h.mu n hn];exact .ptr n k i o (h.live n hn)
 |ept k es i o b off f hb aAJ hcell hst hv ih=>
  exact .ept k es i o b off f (Kb hb h.size) aAJ (fun j hj=>(h.cell b _ hb (hst j hj)).trans (hcell j hj)) (fun j hj=>h.still hb (hst j hj)) ih
 |slnil k=>exact .slnil k
 |slz k a=>exact .slz k a
 |sl k own es b off cap f hb aAJ hcell hst hv hcap aAl aAg aA8 ih=>
  refine .sl k own es b off cap f (Kb hb h.size) aAJ (fun j hj=>(h.cell b _ hb (hst j hj)).trans (hcell j hj)) (fun j hj=>h.still hb (hst j hj)) ih hcap aAl aAg ?_;intro n hn;obtain⟨a,q⟩:=aA8 n hn;refine⟨h.live n a,?_⟩;rcases q with q|⟨c,d,T,m,g,i⟩
  ·exact .inl q
  exact .inr ⟨(h.mu n a).trans c,(h.tp n a).trans d,T,m,(h.shape b hb).trans g,i⟩
 |rs n k off len cap hn hcap hm=>
  rw[←h.mu n hn];refine .rs n k off len cap (h.live n hn) hcap ?_;obtain⟨T,m,a,b⟩:=hm;refine⟨T,m,?_,b⟩;rw[h.mu n hn,h.shape _ ?_]
  ·exact a
  unfold Kq at a;rcases KD (K.mu n) K.w.heap.size with hlt|hge
  ·exact hlt
  rw[Kv hge] at a;exact absurd a Zm
 |aAL=>exact .aAL
 |map n hn=>rw[←h.mu n hn];exact .map n (h.live n hn)
 |aAN=>exact .aAN
 |chan n hn=>rw[←h.mu n hn];exact .chan n (h.live n hn)
 |fn f first cap cfirst ccap h1 h2 _ _ v1 v2=>exact .fn f first cap cfirst ccap h1 h2 v1 v2
 |aAY=>exact .aAY
 |yld n hn=>rw[←h.mu n hn];exact .yld n (h.live n hn)
 |iface t v cv _ ih=>exact .iface t v cv ih
 |nilIface=>exact .nilIface
 |agg cs ccs hl _ ih=>exact .agg cs ccs hl ih
 |tup cs ccs hl _ ih=>exact .tup cs ccs hl ih
 |top cv=>exact .top cv
theorem VR.mono{K K':Ker}(h:K.le K'){v:V}{cv:Value}(r:VR K v cv):VR K' v cv:=r.aAq h.toV
def VRs(K:Ker)(vs:List V)(cvs:Array Value):Prop:=vs.length=cvs.size∧∀i,i<vs.length→VR K (vs.getD i V.undef) (cvs.getD i Ke)
theorem VRs.mono{K K':Ker}(h:K.le K'){vs:List V}{cvs:Array Value}(r:VRs K vs cvs):VRs K' vs cvs:=⟨r.1,fun i hi=>(r.2 i hi).mono h⟩
theorem VR.undef(K:Ker):VR K V.undef Ke:= .tup [] #[] rfl (fun i hi=>absurd hi Zm)
theorem VR.aBd{K:Ker}{v:V}{cv:Value}(r:VR K v cv)(h:v.aAD=true):cv.oneCell'=true:=by
 cases r<;>first|rfl|(simp[V.aAD] at h)
theorem VR.cells{K:Ker}{k:Sh}{v:V}{cv:Value}(r:VR K v cv)(h:v.fits k=true):
 v.cells.length=k.size∧cv.cells.size=k.size∧(∀j,j<k.size→VR K (v.cell j) (cv.cells.getD j Ke))∧(∀j,j<k.size→(v.cell j).aAD=true):=by
 cases k with
 |leaf=>
  simp only[V.fits] at h;have e1:v.cells=[v]:=by cases v<;>first|rfl|(simp[V.aAD] at h)
  have e2:cv.cells=#[cv]:=by cases r<;>first|rfl|(simp[V.aAD] at h)
  refine⟨by rw[e1];rfl,by rw[e2];rfl,?_,?_⟩
  ·intro j hj;have:j=0:=by simp[Sh.size] at hj;exact hj
   subst this;unfold V.cell;rw[e1,e2];exact r
  intro j hj;have:j=0:=by simp[Sh.size] at hj;exact hj
  subst this;unfold V.cell;rw[e1];exact h
 |agg n=>
  cases r with
  |agg cs ccs hl hv=>
   simp only[V.fits,Kg,decide_eq_true_eq,Kj] at h;obtain⟨h1,h2⟩:=h;refine⟨h1,by show ccs.size=n;omega,fun j hj=>hv j (by simp only[Sh.size] at hj;omega),?_⟩;intro j hj;simp only[Sh.size] at hj;have hj':j<cs.length:=or;show(cs.getD j V.undef).aAD=true;rw[Ka,Kc hj'];exact h2 _ (Kk _)
  |_=>simp[V.fits] at h
theorem VR.aDx{K:Ker}{n:Nat}{v:V}{ccs:Array Value}(h:v.fits (.agg n)=true)(hs:ccs.size=n)(hv:∀j,j<n→VR K (v.cell j) (ccs.getD j Ke)):VR K v (.agg ccs):=by
 cases v with
 |agg cs=>
  simp only[V.fits,Kg,decide_eq_true_eq] at h;exact .agg cs ccs or (fun i hi=>hv i or)
 |_=>simp[V.fits] at h
structure ME where
 k:V
 v:V
 b:Nat
 deriving Inhabited
inductive Blk where
 |arr (k:Sh) (es:List V)
 |tip
 |obj (o:Obj) (U:Ker→Prop)
 |mp (es:List ME) (c:Nat)
 |mit (m since:Nat) (seen:List Nat) (last:Nat)
 deriving Inhabited
def Blk.mem:Blk→Bool
 | .arr _ _=>true
 | .mp _ _=>true
 |_=>false
abbrev Hp:=Nat→Option Blk
def Hp.set(h:Hp)(n:Nat)(b:Blk):Hp:=fun m=>if m=n then some b else h m
def Hp.del(h:Hp)(n:Nat):Hp:=fun m=>if m=n then none else h m
def Hp.le(h h':Hp):Prop:=∀n b,h n=some b→h' n=some b
theorem Hp.le_refl(h:Hp):h.le h:=fun _ _ e=>e
def gP:Obj→Bool
 | .cells .. =>false
 | .deferred .. =>false
 |_=>true
inductive BR(K:Ker)(n:Nat):Blk→Prop where
 |arr (k:Sh) (es:List V) (c:Array Value) (T:Nat) (hh:K.w.heap[K.mu n]?=some (.cells c T (0,0))) (hsz:es.length*k.size≤c.size) (hi:K.imm (K.mu n)=0)
  (aAJ:∀e∈es,e.fits k=true) (hv:∀i,i<es.length→∀j,j<k.size→VR K ((es.getD i V.undef).cell j) (c.getD (i*k.size+j) Ke)):BR K n (.arr k es)
 |tip (c:Array Value) (T:Nat) (hh:K.w.heap[K.mu n]?=some (.cells c T (0,0))) (hi:K.imm (K.mu n)=K.tp n) (ht:K.tp n≤c.size):BR K n .tip
 |obj (o:Obj) (U:Ker→Prop) (hh:K.w.heap[K.mu n]?=some o) (ho:gP o=true) (hu:U K) (hU:∀A B:Ker,A.leV B→U A→U B):BR K n (.obj o U)
 |mp (es:List ME) (c:Nat) (ces:Array MapEntry) (hh:K.w.heap[K.mu n]?=some (.map ces c)) (hl:es.length=ces.size)
  (hv:∀i,i<es.length→VR K (es.getD i default).k (ces.getD i default).key∧VR K (es.getD i default).v (ces.getD i default).val∧(ces.getD i default).born=(es.getD i default).b):BR K n (.mp es c)
 |mit (m since:Nat) (seen:List Nat) (last:Nat) (hh:K.w.heap[K.mu n]?=some (.mapIter (some (K.mu m)) since seen.toArray last)) (hm:K.live m):BR K n (.mit m since seen last)
structure hZ(K:Ker):Prop where
 lt:∀b,K.fro b→b<K.w.heap.size
 gt:∀g cs,(g,cs)∈GT→K.fro g∧(∃T,K.w.shape? g=some (T,cs.length))∧∀o,o<cs.length→K.w.cell? ⟨g,o,none⟩=some (cs.getD o Ke)
 gi:∀g,g∈GI→K.fro g∧∃ev,K.w.cell? ⟨g,0,none⟩=some ev∧(ev= .nilIface∨∃te pe,ev= .iface te pe)
theorem hZ.aC4{K K':Ker}(f:hZ K)(hle:K.leV K'):hZ K':=
 ⟨fun b hb=>by rw[hle.fro] at hb;exact Kb (f.lt b hb) hle.size,fun g cs hm=>⟨by rw[hle.fro];exact(f.gt g cs hm).1,by obtain⟨h1,⟨T,h2⟩,h3⟩:=f.gt g cs hm;exact⟨⟨T,(hle.shape g (f.lt g h1)).trans h2⟩,fun o ho=>(hle.cell g o (f.lt g h1) (.inl h1)).trans (h3 o ho)⟩⟩,
   fun g hm=>⟨by rw[hle.fro];exact(f.gi g hm).1,by obtain⟨h1,ev,h2,h3⟩:=f.gi g hm;exact⟨ev,(hle.cell g 0 (f.lt g h1) (.inl h1)).trans h2,h3⟩⟩⟩
theorem hZ.keep{K K':Ker}(f:hZ K)(hle:K.le K'):hZ K':=f.aC4 hle.toV
theorem hZ.all{K:Ker}(f:hZ K):hZ {K with fro:=fun b=>b<K.w.heap.size}:=⟨fun _ hb=>hb,fun g cs hm=>⟨f.lt g (f.gt g cs hm).1,(f.gt g cs hm).2⟩,fun g hm=>⟨f.lt g (f.gi g hm).1,(f.gi g hm).2⟩⟩
theorem hZ.re{K K':Ker}(f:hZ K)(h1:K'.w=K.w)(h2:K'.fro=K.fro):hZ K':=by
 obtain⟨a,b,c⟩:=f;exact⟨by rw[h1,h2];exact a,by rw[h1,h2];exact b,by rw[h1,h2];exact c⟩
structure Rel(K:Ker)(h:Hp):Prop where
 lt:∀n b,h n=some b→K.live n
 base:∀n b,h n=some b→¬K.fro (K.mu n)
 blk:∀n b,h n=some b→BR K n b
 inj:∀n n' b b',h n=some b→h n'=some b'→K.mu n=K.mu n'→n=n'
 size:hZ K
theorem Rel.weaken{K:Ker}{h h':Hp}(r:Rel K h)(hl:h'.le h):Rel K h':=
 ⟨fun n b e=>r.lt n b (hl n b e),fun n b e=>r.base n b (hl n b e),fun n b e=>r.blk n b (hl n b e),fun n n' b b' e e'=>r.inj n n' b b' (hl n b e) (hl n' b' e'),r.size⟩
theorem BR.lt_size{K:Ker}{n:Nat}{b:Blk}(r:BR K n b):K.mu n<K.w.heap.size:=by
 have key:∀o,K.w.heap[K.mu n]?=some o→K.mu n<K.w.heap.size:=fun o ho=>by
  rcases KD (K.mu n) K.w.heap.size with hlt|hge
  ·exact hlt
  rw[Kv hge] at ho;exact absurd ho Zm
 cases r with
 |arr k es c T hh=>exact key _ hh
 |tip c T hh=>exact key _ hh
 |obj o U hh=>exact key _ hh
 |mp es c ces hh=>exact key _ hh
 |mit m since seen last hh=>exact key _ hh
theorem BR.aAq{K K':Ker}{n:Nat}{b:Blk}(h:K.leV K')(hn:K.live n)(hh:K'.w.heap[K.mu n]?=K.w.heap[K.mu n]?)(hi:K'.imm (K.mu n)=K.imm (K.mu n))(r:BR K n b):BR K' n b:=by
 have em:=h.mu n hn;have et:=h.tp n hn;cases r with
 |arr k es c T hc hsz hi' aAJ hv=>exact .arr k es c T (by rw[em,hh];exact hc) hsz (by rw[em,hi];exact hi') aAJ (fun i hi j hj=>(hv i hi j hj).aAq h)
 |tip c T hc hi' ht=>exact .tip c T (by rw[em,hh];exact hc) (by rw[em,hi,et];exact hi') (by rw[et];exact ht)
 |obj o U ho hc hu hU=>exact .obj o U (by rw[em,hh];exact ho) hc (hU _ _ h hu) hU
 |mp es c ces hc hl hv=>exact .mp es c ces (by rw[em,hh];exact hc) hl (fun i hi=>⟨(hv i hi).1.aAq h,(hv i hi).2.1.aAq h,(hv i hi).2.2⟩)
 |mit m since seen last ho hm=>exact .mit m since seen last (by rw[em,hh,h.mu m hm];exact ho) (h.live m hm)
theorem BR.mono{K K':Ker}{n:Nat}{b:Blk}(h:K.le K')(hn:K.live n)(hh:K'.w.heap[K.mu n]?=K.w.heap[K.mu n]?)(hi:K'.imm (K.mu n)=K.imm (K.mu n))(r:BR K n b):BR K' n b:=r.aAq h.toV hn hh hi
theorem Rel.aC4{K K':Ker}{h:Hp}(r:Rel K h)(hle:K.leV K')(hh:∀n b,h n=some b→K'.w.heap[K.mu n]?=K.w.heap[K.mu n]?∧K'.imm (K.mu n)=K.imm (K.mu n)):Rel K' h where
 lt n b e:=hle.live n (r.lt n b e)
 base n b e:=by rw[hle.fro,hle.mu n (r.lt n b e)];exact r.base n b e
 blk n b e:=(r.blk n b e).aAq hle (r.lt n b e) (hh n b e).1 (hh n b e).2
 inj n n' b b' e e' em:=by
  rw[hle.mu n (r.lt n b e),hle.mu n' (r.lt n' b' e')] at em;exact r.inj n n' b b' e e' em
 size:=r.size.aC4 hle
theorem Rel.keep{K K':Ker}{h:Hp}(r:Rel K h)(hle:K.le K')(hh:∀n b,h n=some b→K'.w.heap[K.mu n]?=K.w.heap[K.mu n]?∧K'.imm (K.mu n)=K.imm (K.mu n)):Rel K' h:=r.aC4 hle.toV hh
def Ker.push(K:Ker)(a:Nat)(o:Obj)(m:Nat):Ker:=
 {w:=K.w.alloc o,mu:=fun n=>if n=a then K.w.heap.size else K.mu n,imm:=fun b=>if b=K.w.heap.size then m else K.imm b,
  tp:=fun n=>if n=a then m else K.tp n,live:=fun n=>n=a∨K.live n,fro:=K.fro}
theorem eI(w:World)(o:Obj)(b:Nat)(hb:b<w.heap.size):(w.alloc o).heap[b]?=w.heap[b]?:=Below.heap_alloc w o b hb
theorem cQ(w:World)(o:Obj):(w.alloc o).heap[w.heap.size]?=some o:=by
 show(w.heap.push o)[w.heap.size]?=some o;simp
theorem rT(w:World)(o:Obj):(w.alloc o).heap.size=w.heap.size+1:=by
 show(w.heap.push o).size=_;simp
theorem iO{w w':World}{b o:Nat}(h:w'.heap[b]?=w.heap[b]?):w'.cell? ⟨b,o,none⟩=w.cell? ⟨b,o,none⟩:=by simp only[Kx,h]
theorem kC{w w':World}{b:Nat}(h:w'.heap[b]?=w.heap[b]?):w'.shape? b=w.shape? b:=by simp only[Kq,h]
theorem Ker.aA1(K:Ker)(a:Nat)(ha:¬K.live a)(o:Obj)(m:Nat):K.le (K.push a o m) where
 live n hn:= .inr hn
 mu n hn:=by have:n≠a:=fun e=>ha (e▸hn);simp[Ker.push,this]
 tp n hn:=by have:n≠a:=fun e=>ha (e▸hn);simp[Ker.push,this]
 fro:=rfl
 imm b hlt:=by simp[Ker.push,KE hlt]
 cell b o' hlt _:=iO (eI _ _ _ hlt)
 shape b hlt:=kC (eI _ _ _ hlt)
 below:=nP.alloc _ o
theorem Rel.push{K:Ker}{h:Hp}(r:Rel K h){a:Nat}(ha:¬K.live a)(o:Obj)(m:Nat):Rel (K.push a o m) h:=
 r.keep (K.aA1 a ha o m) fun n b e=>by
  have hlt:=(r.blk n b e).lt_size;exact⟨eI _ _ _ hlt,by simp[Ker.push,KE hlt]⟩
theorem Rel.set_push{K:Ker}{h:Hp}(r:Rel K h){a:Nat}(ha:¬K.live a)(o:Obj)(m:Nat){b:Blk}(hb:BR (K.push a o m) a b):Rel (K.push a o m) (h.set a b):=by
 have r':=r.push ha o m;have hmu:(K.push a o m).mu a=K.w.heap.size:=by simp[Ker.push]
 have hne:∀n b',h n=some b'→(K.push a o m).mu n<K.w.heap.size:=fun n b' e=>by
  have hlt:=(r.blk n b' e).lt_size;rw[(K.aA1 a ha o m).mu n (r.lt n b' e)];exact hlt
 refine⟨?_,?_,?_,?_,r'.size⟩
 ·intro n b' e;unfold Hp.set at e;split at e
  ·rename_i hn;exact .inl hn
  exact r'.lt n b' e
 ·intro n b' e;unfold Hp.set at e;split at e
  ·rename_i hn;rw[hn,hmu];exact fun h=>Nat.lt_irrefl _ (r.size.lt _ h)
  exact r'.base n b' e
 ·intro n b' e;unfold Hp.set at e;split at e
  ·rename_i hn;injection e with e;rw[hn,←e];exact hb
  exact r'.blk n b' e
 intro n n' b1 b2 e1 e2 em;unfold Hp.set at e1 e2;split at e1<;>split at e2
 ·omega
 ·rename_i hn hn';rw[hn,hmu] at em;have:=hne n' b2 e2;omega
 ·rename_i hn hn';rw[hn',hmu] at em;have:=hne n b1 e1;omega
 exact r'.inj n n' b1 b2 e1 e2 em
def Ker.drew(K:Ker):Ker:={K with w:=K.w.drew}
theorem Ker.le_drew(K:Ker):K.le K.drew:=⟨fun _ h=>h,fun _ _=>rfl,fun _ _=>rfl,rfl,fun _ _=>Ki _,fun _ _ _ _=>rfl,fun _ _=>rfl,nP.drew _⟩
theorem Rel.drew{K:Ker}{h:Hp}(r:Rel K h):Rel K.drew h:=r.keep K.le_drew fun _ _ _=>⟨rfl,rfl⟩
def Ker.row(K:Ker)(b:Nat)(c:Array Value):Ker:={K with w:=K.w.setRow b c}
theorem sD(w:World)(b:Nat)(c cur:Array Value)(T:TypeId)(fr:Nat×Nat)(hg:w.heap[b]?=some (.cells cur T fr))(hs:c.size=cur.size)(b':Nat):(w.setRow b c).shape? b'=w.shape? b':=by
 by_cases e:b'=b
 ·subst e;simp only[Kq,setRow_heap w b' cur c T fr hg,hg,hs]
 simp only[Kq,setRow_other w b b' c e]
theorem vX(w:World)(b:Nat)(c:Array Value):(w.setRow b c).heap.size=w.heap.size:=by simp[World.setRow]
theorem de{F:Nat→Prop}(w:World)(b:Nat)(c:Array Value)(hb:¬F b){cur:Array Value}{T:TypeId}{fr:Nat×Nat}(hg:w.heap[b]?=some (.cells cur T fr)):nP F w (w.setRow b c):=
 ⟨rfl,rfl,rfl,Ki _,by rw[vX];exact Ki _,fun k _ hk=>setRow_other w b k c (fun e=>hk.elim (fun hk=>hb (e▸hk)) fun hk=>by subst e;unfold gD at hk;rw[hg] at hk;cases hk)⟩
theorem Ker.aBW(K:Ker)(b:Nat)(c cur:Array Value)(T:TypeId)(hg:K.w.heap[b]?=some (.cells cur T (0,0)))(hs:c.size=cur.size)(hb:¬K.fro b)
 (aBK:∀o,o<K.imm b→c[o]?=cur[o]?):K.le (K.row b c) where
 live _ hn:=hn
 mu _ _:=rfl
 tp _ _:=rfl
 fro:=rfl
 imm _ _:=Ki _
 cell b' o hlt hst:=by
  by_cases e:b'=b
  ·subst e;rcases hst with h|h
   ·exact absurd h hb
   show((K.w.setRow b' c).cell? ⟨b',o,none⟩)=_;simp only[Kx,setRow_heap K.w b' cur c T (0,0) hg,hg,aBK o h]
  exact iO (setRow_other K.w b b' c e)
 shape b' _:=sD K.w b c cur T (0,0) hg hs b'
 below:=de K.w b c hb hg
theorem Rel.row{K:Ker}{h:Hp}(r:Rel K h){n:Nat}{b0 b1:Blk}(hn:h n=some b0)(c cur:Array Value)(T:TypeId)(hg:K.w.heap[K.mu n]?=some (.cells cur T (0,0)))(hs:c.size=cur.size)
 (aBK:∀o,o<K.imm (K.mu n)→c[o]?=cur[o]?) (hb:BR (K.row (K.mu n) c) n b1):Rel (K.row (K.mu n) c) (h.set n b1):=by
 have hle:=K.aBW (K.mu n) c cur T hg hs (r.base n b0 hn) aBK;refine⟨?_,?_,?_,?_,r.size.keep hle⟩
 ·intro m b' e;unfold Hp.set at e;split at e
  ·rename_i hm;subst hm;exact r.lt m b0 hn
  exact r.lt m b' e
 ·intro m b' e;unfold Hp.set at e;split at e
  ·rename_i hm;subst hm;exact r.base m b0 hn
  exact r.base m b' e
 ·intro m b' e;unfold Hp.set at e;split at e
  ·rename_i hm;subst hm;injection e with e;subst e;exact hb
  rename_i hm;refine(r.blk m b' e).mono hle (r.lt m b' e) ?_ rfl;exact setRow_other K.w (K.mu n) (K.mu m) c (fun em=>hm (r.inj m n b' b0 e hn em))
 intro m m' b1' b2' e1 e2 em;unfold Hp.set at e1 e2;have g:∀x bb,(if x=n then some b1 else h x)=some bb→∃b',h x=some b':=fun x bb hx=>by
  split at hx
  ·rename_i hm;subst hm;exact⟨b0,hn⟩
  exact⟨bb,hx⟩
 obtain⟨c1,d1⟩:=g m b1' e1;obtain⟨c2,d2⟩:=g m' b2' e2;exact r.inj m m' c1 c2 d1 d2 em
theorem cM{k i j n:Nat}(hj:j<k)(hi:i<n):i*k+j<n*k:=by
 have:(i+1)*k≤n*k:=Nat.mul_le_mul_right _ hi;rw[Nat.add_mul,Nat.one_mul] at this;omega
theorem qG{k j n:Nat}(h:j<n*k):j / k<n∧j % k<k∧j / k*k+j % k=j:=by
 have hk:0<k:=by
  rcases Nat.eq_zero_or_pos k with e|e
  ·subst e;simp at h
  exact e
 exact⟨Nat.div_lt_of_lt_mul (by rwa [Nat.mul_comm] at h),Nat.mod_lt _ hk,Nat.div_add_mod' j k⟩
mutual
def V.names(L:Nat→Prop):V→Prop
 | .ptr n _ _ _=>L n
 | .rs n _ _ _=>L n
 | .map n=>L n
 | .chan n=>L n
 | .yld n=>L n
 | .ept _ es _ _=>bF L es
 | .sl _ own es=>(∀n,own= .tok n→L n)∧bF L es
 | .fn _ a b=>bF L a∧bF L b
 | .iface _ v=>v.names L
 | .agg cs=>bF L cs
 | .tup vs=>bF L vs
 |_=>True
def bF(L:Nat→Prop):List V→Prop
 | []=>True
 |v::vs=>v.names L∧bF L vs
end
theorem gQ{L:Nat→Prop}:∀{vs:List V},bF L vs↔∀v∈vs,v.names L
 | []=>by simp[bF]
 |v::vs=>by simp[bF,gQ (vs:=vs)]
theorem fA{L:Nat→Prop}{vs:List V}(h:bF L vs)(i:Nat):(vs.getD i V.undef).names L:=by
 by_cases hi:i<vs.length
 ·rw[Ka,Kc hi];exact gQ.1 h _ (Kk _)
 rw[Ka,List.getElem?_eq_none or];simp[V.undef,V.names,bF]
theorem eG{L:Nat→Prop}{vs:List V}(h:∀i,i<vs.length→(vs.getD i V.undef).names L):bF L vs:=by
 refine gQ.2 fun v hv=>?_;obtain⟨i,hi,rfl⟩:=List.getElem_of_mem hv;have:=h i hi;rw[Ka,Kc hi] at this;exact this
theorem rK{L:Nat→Prop}{v:V}(h:v.names L)(j:Nat):(v.cell j).names L:=by
 have one:∀w:V,w.names L→((([w]:List V)).getD j V.undef).names L:=fun w hw=>fA (by simp[bF,hw]) j;cases v<;>first|exact one _ h|skip
 case agg cs=>exact fA (vs:=cs) (by simpa [V.names] using h) j
theorem zB{L:Nat→Prop}{k:Sh}{v:V}(hf:v.fits k=true)(h:∀j,j<k.size→(v.cell j).names L):v.names L:=by
 cases k with
 |leaf=>
  simp only[V.fits] at hf;have e1:v.cells=[v]:=by cases v<;>first|rfl|(simp[V.aAD] at hf)
  have:=h 0 (by simp[Sh.size]);simpa [V.cell,e1] using this
 |agg n=>
  cases v with
  |agg cs=>
   simp only[V.fits,Kg,decide_eq_true_eq] at hf;show bF L cs;exact eG fun i hi=>h i (by show i<n;omega)
  |_=>simp[V.fits] at hf
theorem aS{α:Type}{L:Nat→Prop}{f:α→V}(h:∀x,(f x).names L)(l:List α):bF L (l.map f):=by
 refine gQ.2 fun v hv=>?_;obtain⟨x,_,rfl⟩:=List.mem_map.1 hv;exact h x
theorem VR.free{K:Ker}{k:Sh}{own:Own}{es:List V}{cv:Value}(r:VR K (.sl k own es) cv)(h:own≠ .nil):VR K (.sl k .free es) cv:=by
 cases r with
 |slnil=>exact absurd rfl h
 |slz=>exact .slz _ _
 |sl _ _ _ b off cap f hb aAJ hcell hst hv hcap aAl aAg aA8=>exact .sl k .free es b off cap f hb aAJ hcell hst hv hcap Zm Zm (fun n e=>by cases e)
def Ker.only(K:Ker)(L:Nat→Prop):Ker:={K with live:=L}
theorem VR.only{K:Ker}{v:V}{cv:Value}(r:VR K v cv)(L:Nat→Prop)(hn:v.names L):VR (K.only L) v cv:=by
 induction r with
 |bool b=>exact .bool b
 |int k n=>exact .int k n
 |str s=>exact .str s
 |nilPtr=>exact .nilPtr
 |ptr n k i o h=>exact .ptr n k i o hn
 |ept k es i o b off f hb aAJ hcell hst hv ih=>exact .ept k es i o b off f hb aAJ hcell hst fun i hi j hj=>ih i hi j hj (rK (fA hn i) j)
 |slnil k=>exact .slnil k
 |slz k a=>exact .slz k a
 |sl k own es b off cap f hb aAJ hcell hst hv hcap aAl aAg aA8 ih=>
  exact .sl k own es b off cap f hb aAJ hcell hst (fun i hi j hj=>ih i hi j hj (rK (fA hn.2 i) j)) hcap aAl aAg fun n e=>⟨hn.1 n e,(aA8 n e).2⟩
 |rs n k off len cap h hcap hm=>exact .rs n k off len cap hn hcap hm
 |aAL=>exact .aAL
 |map n h=>exact .map n hn
 |aAN=>exact .aAN
 |chan n h=>exact .chan n hn
 |fn f first cap cfirst ccap h1 h2 _ _ v1 v2=>exact .fn f first cap cfirst ccap h1 h2 (fun i hi=>v1 i hi (fA hn.1 i)) (fun i hi=>v2 i hi (fA hn.2 i))
 |aAY=>exact .aAY
 |yld n h=>exact .yld n hn
 |iface t v cv _ ih=>exact .iface t v cv (ih hn)
 |nilIface=>exact .nilIface
 |agg cs ccs hl _ ih=>exact .agg cs ccs hl fun i hi=>ih i hi (fA (vs:=cs) hn i)
 |tup cs ccs hl _ ih=>exact .tup cs ccs hl fun i hi=>ih i hi (fA (vs:=cs) hn i)
 |top cv=>exact .top cv
theorem VR.names{K:Ker}{v:V}{cv:Value}(r:VR K v cv):v.names K.live:=by
 have row:∀(k:Sh) (es:List V),(∀e∈es,e.fits k=true)→(∀i,i<es.length→∀j,j<k.size→((es.getD i V.undef).cell j).names K.live)→bF K.live es:=by
  intro k es aAJ h;refine eG fun i hi=>zB (k:=k) ?_ (h i hi);rw[Ka,Kc hi];exact aAJ _ (Kk _)
 induction r with
 |ptr n k i o h=>exact h
 |ept k es i o b off f hb aAJ hcell hst hv ih=>exact row k es aAJ ih
 |sl k own es b off cap f hb aAJ hcell hst hv hcap aAl aAg aA8 ih=>exact⟨fun n e=>(aA8 n e).1,row k es aAJ ih⟩
 |slnil k=>exact⟨(fun n e=>by cases e),trivial⟩
 |slz k a=>exact⟨(fun n e=>by cases e),trivial⟩
 |rs n k off len cap h hcap hm=>exact h
 |map n h=>exact h
 |chan n h=>exact h
 |yld n h=>exact h
 |fn f first cap cfirst ccap h1 h2 _ _ v1 v2=>exact⟨eG v1,eG v2⟩
 |iface t v cv _ ih=>exact ih
 |agg cs ccs hl _ ih=>exact eG (vs:=cs) ih
 |tup cs ccs hl _ ih=>exact eG (vs:=cs) ih
 |_=>trivial
mutual
theorem eZ{L L':Nat→Prop}(h:∀n,L n→L' n):∀{v:V},v.names L→v.names L'
 | .ptr n _ _ _,q=>h n q
 | .rs n _ _ _,q=>h n q
 | .map n,q=>h n q
 | .chan n,q=>h n q
 | .yld n,q=>h n q
 | .ept _ es _ _,q=>fP h (vs:=es) q
 | .sl _ own es,q=>⟨fun n e=>h n (q.1 n e),fP h (vs:=es) q.2⟩
 | .fn _ a b,q=>⟨fP h (vs:=a) q.1,fP h (vs:=b) q.2⟩
 | .iface _ v,q=>eZ h (v:=v) q
 | .agg cs,q=>fP h (vs:=cs) q
 | .tup vs,q=>fP h (vs:=vs) q
 | .bool _,_=>trivial
 | .int _ _,_=>trivial
 | .str _,_=>trivial
 | .nilPtr,_=>trivial
 | .aAL,_=>trivial
 | .aAN,_=>trivial
 | .aAY,_=>trivial
 | .nilIface,_=>trivial
 | .top,_=>trivial
theorem fP{L L':Nat→Prop}(h:∀n,L n→L' n):∀{vs:List V},bF L vs→bF L' vs
 | [],_=>trivial
 |v::vs,q=>⟨eZ h (v:=v) q.1,fP h (vs:=vs) q.2⟩
end
theorem Rel.back{K K':Ker}{h:Hp}(r:Rel K h)(r':Rel K' h){L:Nat→Prop}(hle:K.leV (K'.only L))(hL:∀n,K.live n→L n):Rel (K'.only L) h:=by
 refine⟨fun n b e=>hL n (r.lt n b e),r'.base,fun n b e=>?_,r'.inj,r'.size.re rfl rfl⟩;have hb:=r.blk n b e;have hb':=r'.blk n b e;cases hb' with
 |arr k es c T hh hsz hi aAJ hvs=>
  refine .arr k es c T hh hsz hi aAJ fun i hi j hj=>(hvs i hi j hj).only L ?_;cases hb with
  |arr _ _ c0 T0 hh0 aN1 hi0 aOK aN0=>
   have:=(aN0 i hi j hj).names;generalize (es.getD i V.undef).cell j=x at this;exact eZ hL this
 |tip c T hh hi ht=>exact .tip c T hh hi ht
 |obj o U hh ho _ hU=>cases hb with
  |obj _ _ _ _ hu _=>exact .obj o U hh ho (hU _ _ hle hu) hU
 |mp es c ces hh hl hv=>cases hb with
  |mp _ _ aXO hh0 hl0 hv0=>exact .mp es c ces hh hl fun i hi=>⟨(hv i hi).1.only L (eZ hL (hv0 i hi).1.names),(hv i hi).2.1.only L (eZ hL (hv0 i hi).2.1.names),(hv i hi).2.2⟩
 |mit m since seen last hh hm=>cases hb with
  |mit _ _ _ _ hh0 hm0=>exact .mit m since seen last hh (hL m hm0)
def cA(P:Program)(t:TypeId):Option Sh:=
 match P.info? t with
 |none=>none
 |some i=>match P.underlying t with
  |some (.struct _)=>some (.agg i.size)
  |some (.array _ _)=>some (.agg i.size)
  |some _=>if i.size=1 then some .leaf else none
  |none=>none
inductive aJ where
 |slot (t:Nat)
 |const (v:V)
 deriving Inhabited
def aJ.ev(sl:List V):aJ→V
 | .slot t=>sl.getD t V.undef
 | .const v=>v
def xP(P:Program)(t:TypeId):Value→Option V
 | .bool b=>some (.bool b)
 | .int k n=>some (.int k n)
 | .string s=>some (.str s)
 | .pointer none=>some .nilPtr
 | .slice none 0 0=>match P.underlying t with
  |some (.slice e)=>(cA P e).map fun k=> .sl k .nil []
  |_=>some (.sl .leaf .nil [])
 | .map none=>some .aAL
 | .chan none=>some .aAN
 | .nilFunc=>some .aAY
 | .nilIface=>some .nilIface
 |_=>none
def xL(P:Program):Nat→TypeId→List TypeId
 |0,t=>[t]
 |d+1,t=>match P.underlying t with
  |some (.struct fs)=>fs.toList.flatMap fun f=>xL P d f.type
  |some (.array n e)=>(List.replicate n (xL P d e)).flatten
  |_=>[t]
def kB(P:Program):List TypeId→List Value→Option (List V)
 |_,[]=>some []
 |ts,v::vs=>match xP P (ts.headD 0) v,kB P ts.tail vs with
  |some x,some xs=>some (x::xs)
  |_,_=>none
def xD(P:Program)(t:TypeId):Value→Option V
 | .agg cs=>(kB P (xL P 12 t) cs.toList).map .agg
 | .tuple cs=>if cs.isEmpty then some (.tup []) else none
 |v=>xP P t v
def Cz(P:Program)(g:Nat):Option V:=
 ((P.globals[g]?).bind fun gl=>cA P gl.type).bind fun k=>(GT.find? fun p=>p.1==g).bind fun p=>(kB P [] p.2).bind fun vs=>
   match k,vs with
   | .leaf,[v]=>some (.ept .leaf [v] 0 0)
   | .agg n,vs=>if vs.length=n then some (.ept (.agg n) [.agg vs] 0 0) else none
   |_,_=>none
def aN(P:Program)(t:TypeId):Operand→Option aJ
 | .tmp n=>some (.slot n)
 | .const v=>(xD P t v).map .const
 | .func f=>some (.const (.fn (.func f) [] []))
 | .global g=>(Cz P g).map .const
theorem qW{P:Program}{t:TypeId}{cv:Value}{v:V}(h:xP P t cv=some v)(K:Ker):VR K v cv∧v.aAD=true:=by
 unfold xP at h;split at h;case h_5=>
  split at h
  ·rename_i e _;cases hs:cA P e with
   |none=>simp[hs] at h
   |some k=>simp[hs] at h;subst h;exact⟨.slnil k,rfl⟩
  injection h with h;subst h;exact⟨.slnil _,rfl⟩
 all_goals first
  |(injection h with h;subst h;first|exact⟨.bool _,rfl⟩|exact⟨.int _ _,rfl⟩|exact⟨.str _,rfl⟩|exact⟨.nilPtr,rfl⟩|exact⟨.aAL,rfl⟩|exact⟨.aAN,rfl⟩|exact⟨.aAY,rfl⟩|exact⟨.nilIface,rfl⟩)
  |simp at h
theorem kK{P:Program}(K:Ker):∀(cs:List Value) (ts:List TypeId) (vs:List V),kB P ts cs=some vs→
 vs.length=cs.length∧(∀i,i<vs.length→VR K (vs.getD i V.undef) (cs.getD i Ke))∧vs.all V.aAD=true
 | [],ts,vs,h=>by
  simp[kB] at h;subst h;exact⟨rfl,fun i hi=>absurd hi Zm,rfl⟩
 |c::cs,ts,vs,h=>by
  unfold kB at h;split at h
  ·rename_i x xs h1 h2;injection h with h;subst h;obtain⟨a,b,d⟩:=kK K cs _ xs h2;obtain⟨e,f⟩:=qW h1 K;refine⟨by simp[a],?_,by simp[f,d]⟩;intro i hi;cases i with
   |zero=>simpa using e
   |succ i=>simpa using b i (by simpa using hi)
  simp at h
theorem dG{P:Program}{t:TypeId}{cv:Value}{v:V}(h:xD P t cv=some v)(K:Ker):VR K v cv:=by
 unfold xD at h;split at h
 ·rename_i cs;cases hl:kB P (xL P 12 t) cs.toList with
  |none=>simp[hl] at h
  |some vs=>
   simp[hl] at h;subst h;obtain⟨a,b,_⟩:=kK K cs.toList _ vs hl;refine .agg vs cs (by simpa using a) fun i hi=>?_;have:=b i hi;simpa using this
 ·split at h
  ·rename_i cs hc;injection h with h;subst h;have:cs=#[]:=by simpa using hc
   subst this;exact .undef K
  simp at h
 exact(qW h K).1
def eX(K:Ker)(sl:List V)(a:Act):Prop:=sl.length=a.tmps.size∧∀t,VR K (sl.getD t V.undef) (a.tmps.getD t Ke)
def SlV(K:Ker)(sl:List V)(a:Act):Prop:=hZ K∧∀t,VR K (sl.getD t V.undef) (a.tmps.getD t Ke)
theorem ta{P:Program}{g:Nat}{v:V}(h:Cz P g=some v){K:Ker}(f:hZ K):VR K v (.pointer (some ⟨g,0,none⟩)):=by
 unfold Cz at h;obtain⟨k,hk0,h1⟩:=Km.1 h;obtain⟨⟨g',cs⟩,hp,h2⟩:=Km.1 h1;obtain⟨vs,hvs,h3⟩:=Km.1 h2;clear h h1 h2;have hg:g'=g:=by simpa using List.find?_some hp
 subst hg;obtain⟨f1,_,f2⟩:=f.gt _ _ (List.mem_of_find?_eq_some hp);obtain⟨e1,e2,e30⟩:=kK K cs _ vs hvs;have e3:∀x∈vs,x.aAD=true:=Kj.1 e30;have key:∀(k:Sh) (x:V),x.fits k=true→k.size=vs.length→(∀j,x.cell j=vs.getD j V.undef)→VR K (.ept k [x] 0 0) (.pointer (some ⟨g',0,none⟩)):=by
  intro k x hx hk hc
  have:=VR.ept (K:=K) k [x] 0 0 g' 0 (fun j=>cs.getD j Ke) (f.lt _ f1) (by simpa using hx)
   (fun j hj=>by simp only[KB,List.length_nil] at hj;rw[KF];exact f2 j or) (fun j _=> .inl f1)
   (fun i hi j hj=>by
     obtain rfl:i=0:=by simpa using hi
     simp only[List.getD_cons_zero,Nat.zero_mul,KF,hc];exact e2 j or)
  simpa using this
 split at h3
 ·rename_i v;injection h3 with h;subst h;refine key .leaf v (e3 v Zm) rfl fun j=>?_;have:v.cells=[v]:=by
   have:=e3 v Zm;cases v<;>first|rfl|(simp[V.aAD] at this)
  simp only[V.cell,this]
 ·split at h3
  ·rename_i n hn;injection h3 with h;subst h;exact key (.agg n) (.agg vs) (by simp only[V.fits,Kg,decide_eq_true_eq,Kj];exact⟨hn,e3⟩) hn.symm fun j=>rfl
  cases h3
 cases h3
theorem eX.mono{K K':Ker}(h:K.le K'){sl:List V}{a:Act}(r:eX K sl a):eX K' sl a:=⟨r.1,fun t=>(r.2 t).mono h⟩
theorem aG{P:Program}{t:TypeId}{x:Operand}{l:aJ}(h:aN P t x=some l){K:Ker}{sl:List V}{a:Act}(hs:SlV K sl a):VR K (l.ev sl) (a.eval x):=by
 cases x with
 |tmp n=>simp[aN] at h;subst h;exact hs.2 n
 |const cv=>
  simp only[aN] at h;cases hv:xD P t cv with
  |none=>simp[hv] at h
  |some v=>simp[hv] at h;subst h;exact dG hv K
 |func f=>simp[aN] at h;subst h;exact .fn _ [] [] #[] #[] rfl rfl (fun i hi=>absurd hi Zm) (fun i hi=>absurd hi Zm)
 |global g=>
  simp only[aN] at h;obtain⟨v,hv,rfl⟩:=Option.map_eq_some_iff.1 h;exact ta hv hs.1
def cH(k t:Sh)(o:Nat):Prop:=
 match k,t with
 | .leaf, .leaf=>o=0
 | .leaf, .agg _=>False
 | .agg n, .leaf=>o<n
 | .agg n, .agg m=>o+m≤n
def bC(t:Sh)(o:Nat)(e:V):V:=
 match t with
 | .leaf=>e.cell o
 | .agg m=>if o=0∧e.cells.length=m then e else .agg ((e.cells.drop o).take m)
theorem fQ{k t:Sh}{o:Nat}{e:V}(hp:cH k t o)(hf:e.fits k=true):(bC t o e).fits t=true∧o+t.size≤k.size∧∀j,j<t.size→(bC t o e).cell j=e.cell (o+j):=by
 cases k with
 |leaf=>
  cases t with
  |leaf=>
   simp only[cH] at hp;subst hp;simp only[V.fits] at hf;have e1:e.cells=[e]:=by cases e<;>first|rfl|(simp[V.aAD] at hf)
   have e2:bC .leaf 0 e=e:=by simp[bC,V.cell,e1]
   refine⟨by rw[e2];exact hf,by simp[Sh.size],?_⟩;intro j hj;have:j=0:=by simp[Sh.size] at hj;exact hj
   subst this;rw[e2]
  |agg m=>exact hp.elim
 |agg n=>
  cases e with
  |agg cs=>
   simp only[V.fits,Kg,decide_eq_true_eq,Kj] at hf;obtain⟨h1,h2⟩:=hf;cases t with
   |leaf=>
    simp only[cH] at hp;have hl:(bC .leaf o (.agg cs)).aAD=true:=by
     show(cs.getD o V.undef).aAD=true;rw[Ka,Kc or];exact h2 _ (Kk _)
    refine⟨hl,by simp[Sh.size];omega,?_⟩;intro j hj;have:j=0:=by simp[Sh.size] at hj;exact hj
    subst this;have e1:(bC .leaf o (.agg cs)).cells=[bC .leaf o (.agg cs)]:=by
     generalize bC .leaf o (.agg cs)=x at hl;cases x<;>first|rfl|(simp[V.aAD] at hl)
    show(bC .leaf o (.agg cs)).cells.getD 0 V.undef=_;rw[e1];rfl
   |agg m=>
    simp only[cH] at hp;unfold bC;by_cases hc:o=0∧(V.agg cs).cells.length=m
    ·simp only[if_pos hc];obtain⟨rfl,hc⟩:=hc;refine⟨?_,by simp[Sh.size];omega,fun j _=>Zm⟩;simp only[V.fits,Kg,decide_eq_true_eq,Kj];exact⟨hc,h2⟩
    simp only[if_neg hc];refine⟨?_,by simp[Sh.size];omega,?_⟩
    ·simp only[V.fits,V.cells,Kg,decide_eq_true_eq,Kj,List.length_take,List.length_drop];exact⟨or,fun x hx=>h2 x (List.mem_of_mem_drop (List.mem_of_mem_take hx))⟩
    intro j hj;simp only[Sh.size] at hj;show((cs.drop o).take m).getD j V.undef=cs.getD (o+j) V.undef;simp only[Ka,Ky,Kz,if_pos hj]
  |_=>simp[V.fits] at hf
inductive LK where
 |bool|int|str
 deriving DecidableEq,Inhabited
inductive di where
 |plain (k:Sh) (ks:List LK)|ptr|slice|func|iface (cst:Bool)|map|chan
 deriving Inhabited
def gR:LK→V→V→Option Bool
 | .bool, .bool a, .bool b=>some (a==b)
 | .int, .int k a, .int k' b=>if k=k' then some (a==b) else none
 | .str, .str a, .str b=>some (a.toList==b.toList)
 |_,_,_=>none
def gG:List LK→List V→List V→Option Bool
 | [],[],[]=>some true
 | [k],[x],[y]=>gR k x y
 |k::ks,x::xs,y::ys=>match gR k x y,gG ks xs ys with
  |some a,some b=>some (a&&b)
  |_,_=>none
 |_,_,_=>none
def veq:di→V→V→Option Bool
 | .plain k ks,x,y=>if (x.fits k&&y.fits k)=true then gG ks x.cells y.cells else none
 | .ptr, .nilPtr, .nilPtr=>some true
 | .ptr, .nilPtr, .ptr .. =>some false
 | .ptr, .ptr .., .nilPtr=>some false
 | .ptr, .nilPtr, .ept .. =>some false
 | .ptr, .ept .., .nilPtr=>some false
 | .slice, .sl _ o _, .sl _ .nil _=>some (o== .nil)
 | .slice, .rs .., .sl _ .nil _=>some false
 | .func, .aAY, .aAY=>some true
 | .func, .aAY, .fn .. =>some false
 | .func, .fn .., .aAY=>some false
 | .iface true, .nilIface, .nilIface=>some true
 | .iface _, .nilIface, .iface .. =>some false
 | .iface _, .iface .., .nilIface=>some false
 | .map, .aAL, .aAL=>some true
 | .map, .aAL, .map _=>some false
 | .map, .map _, .aAL=>some false
 | .chan, .aAN, .aAN=>some true
 | .chan, .aAN, .chan _=>some false
 | .chan, .chan _, .aAN=>some false
 |_,_,_=>none
def cB(e:di)(k:V):List ME→Option (Option Nat)
 | []=>some none
 |x::r=>match veq e k x.k with
  |some true=>some (some 0)
  |some false=>(cB e k r).map (·.map (·+1))
  |none=>none
def sL(ok:Bool)(z:V)(es:List ME):Option Nat→V
 |some j=>if ok=true then .tup [(es.getD j default).v, .bool true] else (es.getD j default).v
 |none=>if ok=true then .tup [z, .bool false] else z
def zb(op:BinOp)(k:IntKind)(a b:Int)(R:V→Prop):Prop:=
 match op with
 | .add=>R (.int k (k.wrap (a+b)))
 | .sub=>R (.int k (k.wrap (a-b)))
 | .mul=>R (.int k (k.wrap (a*b)))
 | .quo=>b≠0∧R (.int k (k.wrap (a.tdiv b)))
 | .rem=>b≠0∧R (.int k (a.tmod b))
 | .eql=>R (.bool (a==b))
 | .neq=>R (.bool (a != b))
 | .lss=>R (.bool (decide (a<b)))
 | .leq=>R (.bool (decide (a≤b)))
 | .gtr=>R (.bool (decide (b<a)))
 | .geq=>R (.bool (decide (b≤a)))
 |_=>False
def w9(op:BinOp)(s t:ByteArray)(R:V→Prop):Prop:=
 match op with
 | .add=>((s.size+t.size:Nat):Int)≤9223372036854775807∧R (.str (s++t))
 | .eql=>R (.bool (s.toList==t.toList))
 | .neq=>R (.bool (!(s.toList==t.toList)))
 | .lss=>R (.bool (Op.bytesLess s.toList t.toList))
 | .leq=>R (.bool (Op.bytesLess s.toList t.toList||s.toList==t.toList))
 | .gtr=>R (.bool (!(Op.bytesLess s.toList t.toList||s.toList==t.toList)))
 | .geq=>R (.bool (!Op.bytesLess s.toList t.toList))
 |_=>False
def V.pick(t:Bool):V→V→V
 | .bool x, .bool y=> .bool (if t then x else y)
 |a,b=>if t then a else b
def al(cells:List V):List (Nat×List V)→List V
 | []=>cells
 |(off,xs)::r=>al (cells.take off++xs++cells.drop (off+xs.length)) r
def cT(sl:List V)(d:Int):Option aJ→Option Int
 |none=>some d
 |some l=>match l.ev sl with
  | .int _ n=>some n
  |_=>none
def gF(own:Own)(hi mx:Option Int):Own:=
 match own with
 | .nil=> .nil
 |o=>match hi,mx with
  |none,none=>o
  |some h,some m=>if h=m then .full else .free
  |_,_=> .free
def aDT:Own→List V→Option Int→Option Int→Own
 | .free,[],_,_=> .free
 |own,_,hi,mx=>gF own hi mx
theorem tF(es:List V)(hi mx:Option Int):aDT .nil es hi mx= .nil:=by cases es<;>rfl
theorem qH(es:List V)(hi mx:Option Int):aDT .full es hi mx=gF .full hi mx:=by cases es<;>rfl
theorem tE(n:Nat)(es:List V)(hi mx:Option Int):aDT (.tok n) es hi mx=gF (.tok n) hi mx:=by cases es<;>rfl
theorem kF(hi mx:Option Int):aDT .free [] hi mx= .free:=rfl
theorem lU(e:V)(es:List V)(hi mx:Option Int):aDT .free (e::es) hi mx=gF .free hi mx:=rfl
theorem VR.aDT{K:Ker}{k:Sh}{own:Own}{es xs:List V}{hi mx:Option Int}{cv:Value}(ho:own≠ .nil)(h:VR K (.sl k (gF own hi mx) xs) cv):VR K (.sl k (aDT own es hi mx) xs) cv:=by
 cases own with
 |nil=>exact absurd rfl ho
 |full=>rw[qH];exact h
 |tok n=>rw[tE];exact h
 |free=>
  cases es with
  |nil=>exact h.free (by cases hi<;>cases mx<;>simp[gF];split<;>simp)
  |cons=>exact h
def dQ(sl:List V):Option aJ→Option Int
 |none=>none
 |some l=>match l.ev sl with
  | .int _ n=>some n
  |_=>none
def cn(mx:Bool)(a b:Int):Int:=if mx=true then (if b>a then b else a) else (if b<a then b else a)
inductive aT where
 |move (x:aJ)
 |pick (c a b:aJ)
 |load (t:Sh) (x:aJ)
 |nilCheck (x:aJ)
 |bin (op:BinOp) (x y:aJ)
 |eq (ng:Bool) (ty:di) (x y:aJ)
 |not (x:aJ)
 |neg (x:aJ)
 |conv (k:IntKind) (x:aJ)
 |mkif (t:Nat) (x:aJ)
 |mkfn (f:Fn) (first cap:List aJ)
 |fldA (off:Nat) (x:aJ)
 |fld (t:Sh) (off:Nat) (x:aJ)
 |idxA (k:Sh) (x i:aJ)
 |idxP (len:Nat) (k:Sh) (x i:aJ)
 |len (x:aJ)
 |slen (x:aJ)
 |ext (x:aJ) (i:Nat)
 |build (z:List V) (parts:List (Nat×Sh×aJ))
 |slc (k:Sh) (x:aJ) (lo hi mx:Option aJ)
 |slcs (x:aJ) (lo hi:Option aJ)
 |never
 |capv (x:aJ)
 |mnx (mx:Bool) (x y:aJ)
 |asrt (t:Nat) (z:V) (x:aJ)
 |asrq (t:Nat) (x:aJ)
 |mget (kS:Sh) (ks:List LK) (z:V) (ok:Bool) (x i:aJ)
 |mlen (x:aJ)
 |sidx (n:Option Nat) (x i:aJ)
 |pslc (n:Nat) (k:Sh) (x:aJ) (hi:Option aJ)
 deriving Inhabited
def nM(k:Sh)(n:Nat)(e:V):List V:=(Kh n).map fun j=>bC k (j*k.size) e
def aT.sem(sl:List V)(h:Hp)(R:V→Prop):aT→Prop
 | .move x=>R (x.ev sl)
 | .pick c a b=>match c.ev sl with
  | .bool t=>R (V.pick t (a.ev sl) (b.ev sl))
  |_=>False
 | .load t x=>match x.ev sl with
  | .ptr n k i o=>match h n with
   |some (.arr k' es)=>k'=k∧i<es.length∧cH k t o∧R (bC t o (es.getD i V.undef))
   |_=>False
  | .ept k es i o=>i<es.length∧cH k t o∧R (bC t o (es.getD i V.undef))
  |_=>False
 | .nilCheck x=>match x.ev sl with
  | .ptr n k i o=>R (.ptr n k i o)
  | .ept k es i o=>R (.ept k es i o)
  |_=>False
 | .bin op x y=>match x.ev sl,y.ev sl with
  | .int k a, .int k' b=>k=k'∧zb op k a b R
  | .str s, .str t=>w9 op s t R
  |_,_=>False
 | .eq ng ty x y=>match veq ty (x.ev sl) (y.ev sl) with
  |some r=>R (.bool (if ng then !r else r))
  |none=>False
 | .not x=>match x.ev sl with
  | .bool b=>R (.bool (!b))
  |_=>False
 | .neg x=>match x.ev sl with
  | .int k n=>R (.int k (k.wrap (0-n)))
  |_=>False
 | .conv k x=>match x.ev sl with
  | .int _ n=>R (.int k (k.wrap n))
  |_=>False
 | .mkif t x=>R (.iface t (x.ev sl))
 | .mkfn f first cap=>R (.fn f (first.map (aJ.ev sl)) (cap.map (aJ.ev sl)))
 | .fldA off x=>match x.ev sl with
  | .ptr n k i o=>R (.ptr n k i (o+off))
  | .ept k es i o=>R (.ept k es i (o+off))
  |_=>False
 | .fld t off x=>match x.ev sl with
  | .agg cs=>cH (.agg cs.length) t off∧cs.all V.aAD=true∧R (bC t off (.agg cs))
  |_=>False
 | .idxA k x i=>match x.ev sl,i.ev sl with
  | .sl k' _ es, .int _ j=>k'=k∧0≤j∧j<es.length∧R (.ept k es j.toNat 0)
  | .rs n k' off ln, .int _ j=>k'=k∧0≤j∧j<ln∧R (.ptr n k (off+j.toNat) 0)
  |_,_=>False
 | .idxP ln k x i=>match x.ev sl,i.ev sl with
  | .ptr n k' i' o, .int _ j=>0≤j∧j<ln∧R (.ptr n k' i' (o+j.toNat*k.size))
  | .ept k' es i' o, .int _ j=>0≤j∧j<ln∧R (.ept k' es i' (o+j.toNat*k.size))
  |_,_=>False
 | .len x=>match x.ev sl with
  | .sl _ _ es=>R (.int .i64 es.length)
  | .rs _ _ _ ln=>R (.int .i64 ln)
  |_=>False
 | .slen x=>match x.ev sl with
  | .str s=>R (.int .i64 s.size)
  |_=>False
 | .ext x i=>match x.ev sl with
  | .tup vs=>i<vs.length∧R (vs.getD i V.undef)
  |_=>False
 | .slc k x lo hi mx=>match x.ev sl with
  | .sl k' own es=>match cT sl 0 lo,cT sl es.length hi,cT sl es.length mx with
   |some l,some h',some m=>k'=k∧0≤l∧l≤h'∧h'≤m∧m≤es.length∧(hi.isNone=true→mx.isNone=true)∧R (.sl k (aDT own es (dQ sl hi) (dQ sl mx)) ((es.take h'.toNat).drop l.toNat))
   |_,_,_=>False
  | .rs n k' off ln=>match cT sl 0 lo,cT sl ln hi,mx with
   |some l,some h',none=>k'=k∧0≤l∧l≤h'∧h'≤ln∧R (if l.toNat=ln∧l.toNat≠0 then .sl k .free [] else .rs n k (off+l.toNat) (h'.toNat-l.toNat))
   |some l,some h',some _=>cT sl ln mx=some 0∧k'=k∧l=0∧h'=0∧hi.isSome=true∧R (.sl k .full [])
   |_,_,_=>False
  |_=>False
 | .slcs x lo hi=>match x.ev sl with
  | .str s=>match cT sl 0 lo,cT sl s.size hi with
   |some l,some h'=>0≤l∧l≤h'∧h'≤s.size∧R (.str (s.extract l.toNat h'.toNat))
   |_,_=>False
  |_=>False
 | .build z parts=>(∀p∈parts,(p.2.2.ev sl).fits p.2.1=true∧p.1+p.2.1.size≤z.length)∧R (.agg (al z (parts.map fun p=>(p.1,(p.2.2.ev sl).cells))))
 | .never=>False
 | .capv x=>match x.ev sl with
  | .sl _ .nil _=>R (.int .i64 0)
  | .sl _ .full es=>R (.int .i64 es.length)
  |_=>False
 | .mnx mx x y=>match x.ev sl,y.ev sl with
  | .int k a, .int k' b=>k=k'∧R (.int k (cn mx a b))
  |_,_=>False
 | .asrt t z x=>match x.ev sl with
  | .iface t' v=>R (.tup [if t'=t then v else z, .bool (decide (t'=t))])
  | .nilIface=>R (.tup [z, .bool false])
  |_=>False
 | .asrq t x=>match x.ev sl with
  | .iface t' v=>t'=t∧R v
  |_=>False
 | .mget kS ks z ok x i=>(i.ev sl).fits kS=true∧match x.ev sl with
  | .aAL=>R (sL ok z [] none)
  | .map n=>match h n with
   |some (.mp es _)=>match cB (.plain kS ks) (i.ev sl) es with
    |some r=>R (sL ok z es r)
    |none=>False
   |_=>False
  |_=>False
 | .mlen x=>match x.ev sl with
  | .aAL=>R (.int .i64 0)
  | .map n=>match h n with
   |some (.mp es _)=>R (.int .i64 es.length)
   |_=>False
  |_=>False
 | .pslc n k x hi=>match x.ev sl with
  | .ept (.agg m) [e] 0 0=>match cT sl n hi with
   |some h'=>m=n*k.size∧0≤h'∧h'≤n∧R (.sl k .free ((nM k n e).take h'.toNat))
   |none=>False
  |_=>False
 | .sidx n x i=>match n,x.ev sl,i.ev sl with
  |some n, .agg cs, .int _ j=>0≤j∧(j<n∧j<cs.length)∧R (cs.getD j.toNat V.undef)
  |none, .str s, .int _ j=>0≤j∧j<s.size∧R (.int .u8 (s.data.toList.getD j.toNat 0).toNat)
  |_,_,_=>False
theorem aT.aAw{sl:List V}{h h':Hp}{R R':V→Prop}(hh:∀n b,h n=some b→b.mem=true→h' n=some b)(hR:∀v,R v→R' v){l:aT}(hs:l.sem sl h R):l.sem sl h' R':=by
 cases l<;>simp only[aT.sem] at hs⊢;case bin op x y=>
  revert hs;split
  ·rintro⟨a,b⟩;refine⟨a,?_⟩;cases op<;>simp only[zb] at b⊢<;>first|exact hR _ b|exact⟨b.1,hR _ b.2⟩|exact b
  ·intro b;cases op<;>simp only[w9] at b⊢<;>first|exact hR _ b|exact⟨b.1,hR _ b.2⟩|exact b
  exact id
 case load t x=>
  revert hs;split
  ·split
   ·rename_i n k i o _ k' es he;rintro⟨a,b,c,d⟩;rw[hh _ _ he rfl];exact⟨a,b,c,hR _ d⟩
   exact False.elim
  ·rintro⟨b,c,d⟩;exact⟨b,c,hR _ d⟩
  exact id
 case mget kS ks z ok x i=>
  refine⟨hs.1,?_⟩;have hs:=hs.2;revert hs;split
  ·exact hR _
  ·split
   ·rename_i he;rw[hh _ _ he rfl];dsimp only;split
    ·exact hR _
    exact id
   exact False.elim
  exact id
 case mlen x=>
  revert hs;split
  ·exact hR _
  ·split
   ·rename_i he;rw[hh _ _ he rfl];exact hR _
   exact False.elim
  exact id
 case slc k x lo hi mx=>
  revert hs;split
  ·split
   ·rintro⟨a,b,c,d,e,f,g⟩;exact⟨a,b,c,d,e,f,hR _ g⟩
   exact id
  ·split
   ·rintro⟨a,b,c,d,e⟩;exact⟨a,b,c,d,hR _ e⟩
   ·rintro⟨a,b,c,d,f,e⟩;exact⟨a,b,c,d,f,hR _ e⟩
   exact id
  exact id
 case slcs x lo hi=>
  revert hs;split
  ·split
   ·rintro⟨a,b,c,e⟩;exact⟨a,b,c,hR _ e⟩
   exact id
  exact id
 case pslc n k x hi=>
  revert hs;split
  ·split
   ·rintro⟨a,b,c,e⟩;exact⟨a,b,c,hR _ e⟩
   exact id
  exact id
 all_goals
  first
   |exact hR _ hs
   |exact⟨hs.1,hR _ hs.2⟩
   |(revert hs;split<;>first|exact hR _|exact id|(rintro⟨a,b⟩;exact⟨a,hR _ b⟩)|(rintro⟨a,c,b⟩;exact⟨a,c,hR _ b⟩)|(rintro⟨a,c,d,b⟩;exact⟨a,c,d,hR _ b⟩))
theorem fE{P:Program}{t:TypeId}{k:Sh}(h:cA P t=some k):∃i d,P.info? t=some i∧P.underlying t=some d∧i.size=k.size∧((k= .leaf∧(∀fs,d≠ .struct fs)∧(∀n e,d≠ .array n e))∨(k= .agg i.size∧((∃fs,d= .struct fs)∨∃n e,d= .array n e))):=by
 unfold cA at h;split at h
 ·simp at h
 rename_i i hi;split at h
 ·rename_i fs hu;injection h with h;subst h;exact⟨i,_,hi,hu,rfl, .inr ⟨rfl, .inl ⟨fs,rfl⟩⟩⟩
 ·rename_i n e hu;injection h with h;subst h;exact⟨i,_,hi,hu,rfl, .inr ⟨rfl, .inr ⟨n,e,rfl⟩⟩⟩
 ·rename_i d h1 h2 hu;split at h
  ·rename_i hs;injection h with h;subst h;exact⟨i,d,hi,hu,hs, .inl ⟨rfl,h1,h2⟩⟩
  simp at h
 simp at h
theorem fe{P:Program}{t:TypeId}{k:Sh}(h:cA P t=some k)(w:World):(isAgg t).run P w= .ok (match k with| .leaf=>false| .agg _=>true) w:=by
 obtain⟨i,d,hi,hd,hs,hk⟩:=fE h;simp only[isAgg,Kf,run_underlying hd,Kd];rcases hk with⟨rfl,h1,h2⟩|⟨rfl,⟨fs,rfl⟩|⟨n,e,rfl⟩⟩
 ·cases d<;>first|rfl|exact absurd rfl (h1 _)|exact absurd rfl (h2 _ _)
 ·rfl
 rfl
theorem eF{P:Program}{t:TypeId}{k:Sh}(h:cA P t=some k)(w:World):(sizeOf t).run P w= .ok k.size w:=by
 obtain⟨i,d,hi,hd,hs,hk⟩:=fE h;simp[sizeOf,typeInfo,hi,hs]
def aAb(k:Sh)(f:Nat→Value):Value:=
 match k with
 | .leaf=>f 0
 | .agg n=> .agg ((Kh n).map f).toArray
theorem dE(b o n:Nat):(⟨b,o,none⟩:Addr).add n=⟨b,o+n,none⟩:=by
 unfold Addr.add;split
 ·subst_vars;rfl
 rfl
theorem oJ{P:Program}{t:TypeId}{k:Sh}(h:cA P t=some k)(w:World)(b o:Nat)(f:Nat→Value)(hc:∀j,j<k.size→w.cell? ⟨b,o+j,none⟩=some (f j)):
 (loadVar t ⟨b,o,none⟩).run P w= .ok (aAb k f) w:=by
 simp only[loadVar,Kf,fe h,Kd];cases k with
 |leaf=>
  have:=hc 0 (by simp[Sh.size]);simp only[Nat.add_zero] at this;simp[this,aAb]
 |agg n=>
  have hl:=run_loadCells (P:=P) w ⟨b,o,none⟩ n f (fun j hj=>by rw[dE];exact hc j hj);simp only[Kf,eF h,Kd,if_true,Sh.size,hl,Kp,aAb]
theorem VR.aAb{K:Ker}{k:Sh}{v:V}{f:Nat→Value}(hf:v.fits k=true)(hv:∀j,j<k.size→VR K (v.cell j) (f j)):VR K v (aAb k f):=by
 cases k with
 |leaf=>
  have h0:=hv 0 (by simp[Sh.size]);simp only[V.fits] at hf;have e1:v.cells=[v]:=by cases v<;>first|rfl|(simp[V.aAD] at hf)
  have e2:v.cell 0=v:=by simp[V.cell,e1]
  rw[e2] at h0;exact h0
 |agg n=>
  refine VR.aDx hf Zm fun j hj=>?_;have:=hv j hj;simpa [Ka,hj] using this
def tN(P:Program)(o:Oper)(act:Act)(K:Ker)(R:V→Prop):Prop:=∃cv v,(execOp act.eval o).run P K.w= .ok (.value cv) K.w∧VR K v cv∧R v
section
variable{P:Program}{o:Oper}{act:Act}{K:Ker}{sl:List V}{h:Hp}{R:V→Prop}
theorem Cj{t:TypeId}{k:Sh}(hk:cA P t=some k){a:Value}(hr:Rel K h){x:V}(hx:VR K x a)(l:aJ)(hl:l.ev sl=x)(aAB:(aT.load k l).sem sl h R):
 ∃cv v,(Kw t a).run P K.w= .ok cv K.w∧VR K v cv∧R v:=by
 simp only[aT.sem,hl] at aAB;cases hx with
 |ptr n kk i oo hn=>
  simp only at aAB;split at aAB
  ·rename_i k' es he;obtain⟨rfl,hi,hp,hR⟩:=aAB;have hb:=hr.blk n _ he;cases hb with
   |arr _ _ c T hh hsz aAx aAJ hv=>
    have aAk:es.getD i V.undef∈es:=by
     rw[Ka,Kc hi];exact Kk _
    obtain⟨f1,f2,f3⟩:=fQ hp (aAJ _ aAk);have aD5:∀j,j<k.size→i*k'.size+oo+j<c.size:=fun j hj=>by
     have:=cM (k:=k'.size) (i:=i) (j:=oo+j) (n:=es.length) or hi;omega
    have aAo:=oJ hk K.w (K.mu n) (i*k'.size+oo) (fun j=>c.getD (i*k'.size+(oo+j)) Ke) (fun j hj=>by
     have:=aD5 j hj;simp[Kx,hh,Array.getD,Ku,show i*k'.size+(oo+j)<c.size by omega])
    refine⟨_,_,by simp only[Kw,KA,Kf,Kp,Kd];exact aAo,VR.aAb f1 (fun j hj=>?_),hR⟩;rw[f3 j hj];exact hv i hi (oo+j) or
  exact aAB.elim
 |ept kk es i oo b off f hb aAJ hcell hst hv=>
  obtain⟨hi,hp,hR⟩:=aAB;have aAk:es.getD i V.undef∈es:=by
   rw[Ka,Kc hi];exact Kk _
  obtain⟨f1,f2,f3⟩:=fQ hp (aAJ _ aAk);have aAo:=oJ hk K.w b (off+(i*kk.size+oo)) (fun j=>f (i*kk.size+(oo+j))) (fun j hj=>by
   have:=cM (k:=kk.size) (i:=i) (j:=oo+j) (n:=es.length) or hi;have:=hcell (i*kk.size+(oo+j)) this;simpa [Ku] using this)
  refine⟨_,_,by simp only[Kw,KA,Kf,Kp,Kd];exact aAo,VR.aAb f1 (fun j hj=>?_),hR⟩;rw[f3 j hj];exact hv i hi (oo+j) or
 |_=>exact aAB.elim
theorem C9{op:BinOp}{k:IntKind}{a b:Int}{t:TypeId}(hop:op≠ .shl∧op≠ .shr)(hR:zb op k a b R):∃cv v,(binOp op t (.int k a) (.int k b)).run P K.w= .ok cv K.w∧VR K v cv∧R v:=by
 cases op<;>simp only[zb] at hR<;>first
  |exact hR.elim
  |exact⟨_,_,by simp[binOp,Op.intArith,Op.intCmp], .int _ _,hR⟩
  |exact⟨_,_,by simp[binOp,Op.intArith,Op.intCmp], .bool _,hR⟩
  |exact⟨_,_,by simp[binOp,Op.intDiv,hR.1], .int _ _,hR.2⟩
theorem CT{op:BinOp}{s t:ByteArray}{ty:TypeId}(hR:w9 op s t R):∃cv v,(binOp op ty (.string s) (.string t)).run P K.w= .ok cv K.w∧VR K v cv∧R v:=by
 have hm:IntKind.i64.max=9223372036854775807:=rfl
 cases op<;>simp only[w9] at hR<;>first
  |exact hR.elim
  |exact⟨_,_,by simp[binOp,Op.stringOp], .bool _,hR⟩
  |(refine⟨_,_,?_, .str _,hR.2⟩
    have:=hR.1;simp only[binOp,Op.stringOp,hm];rw[if_neg or];rfl)
end
def fB(kd:TypeId→Option (List LK)):List Field→Nat→Option (List LK)
 | [],_=>some []
 |f::fs,off=>if f.name≠ "_" ∧f.offset=off then (kd f.type).bind fun ks=>(fB kd fs (off+ks.length)).map (ks++ ·) else none
def aY(P:Program):Nat→TypeId→Option (List LK)
 |0,_=>none
 |d+1,t=>match P.underlying t with
  |some .bool=>if cA P t=some .leaf then some [.bool] else none
  |some (.int _)=>if cA P t=some .leaf then some [.int] else none
  |some .string=>if cA P t=some .leaf then some [.str] else none
  |some (.struct fs)=>if P.stoodInHeld t then none else (fB (aY P d) fs.toList 0).bind fun ks=>if cA P t=some (.agg ks.length) then some ks else none
  |_=>none
theorem pQ(k:LK)(ks:List LK)(x:V)(xs:List V)(y:V)(ys:List V):gG (k::ks) (x::xs) (y::ys)=match gR k x y,gG ks xs ys with
 |some a,some b=>some (a&&b)
 |_,_=>none:=by
 cases ks<;>cases xs<;>cases ys<;>first|rfl|(simp[gG];done)|(simp only[gG];cases gR k x y<;>simp)
theorem mR:∀(ks:List LK) (xs ys:List V) (r:Bool),gG ks xs ys=some r→xs.length=ks.length∧ys.length=ks.length
 | [],[],[],_,_=>⟨rfl,rfl⟩
 | [],[],_::_,_,h=>by simp[gG] at h
 | [],_::_,_,_,h=>by simp[gG] at h
 |k::ks,[],_,_,h=>by simp[gG] at h
 |k::ks,_::_,[],_,h=>by simp[gG] at h
 |k::ks,x::xs,y::ys,r,h=>by
  rw[pQ] at h;split at h
  ·rename_i a b h1 h2;have:=mR ks xs ys b h2;simp[this.1,this.2]
  simp at h
theorem vQ:∀(ks ks':List LK) (xs ys:List V) (r:Bool),gG (ks++ks') xs ys=some r→
 ∃r1 r2,gG ks (xs.take ks.length) (ys.take ks.length)=some r1∧gG ks' (xs.drop ks.length) (ys.drop ks.length)=some r2∧r=(r1&&r2)
 | [],ks',xs,ys,r,h=>⟨true,r,by simp[gG],by simpa using h,Zm⟩
 |k::ks,ks',xs,ys,r,h=>by
  have hl:=mR _ _ _ _ h;cases xs with
  |nil=>simp at hl
  |cons x xs=>
   cases ys with
   |nil=>simp at hl
   |cons y ys=>
    rw[List.cons_append,pQ] at h;split at h
    ·rename_i a b h1 h2;injection h with h;obtain⟨r1,r2,e1,e2,e3⟩:=vQ ks ks' xs ys b h2;refine⟨a&&r1,r2,?_,by simpa using e2,by rw[←h,e3,Bool.and_assoc]⟩;simp only[KB,List.take_succ_cons];rw[pQ,h1,e1]
    simp at h
theorem oI{P:Program}{t:TypeId}{k:Sh}(h:cA P t=some k)(w:World)(cs:Array Value)(f:Nat→Value)(off:Nat)(hl:off+k.size≤cs.size)(hf:∀j,j<cs.size→cs.getD j Ke=f j):
 (part t cs off).run P w= .ok (aAb k fun j=>f (off+j)) w:=by
 simp only[part,Kf,fe h,Kd];cases k with
 |leaf=>
  simp only[Sh.size] at hl;have h0:=hf off or;have:cs[off]?=some (f off):=by
   rw[Ko or];rw[Kt,Ko or] at h0;simpa using h0
  simp[this,aAb]
 |agg n=>
  simp only[Sh.size] at hl;have:cs.extract off (off+n)=((Kh n).map fun j=>f (off+j)).toArray:=by
   apply Array.ext
   ·simp;omega
   intro i h1 h2;have hi:i<n:=by simpa using h2
   have h0:=hf (off+i) or;rw[Kt,Ko or] at h0;simpa using h0
  simp only[if_true,Kf,eF h,Kd,Sh.size,Kp,aAb,this]
theorem pu{P:Program}{K:Ker}(w:World):∀(d:Nat) (t:TypeId) (ks:List LK) (k:Sh),aY P d t=some ks→cA P t=some k→k.size=ks.length∧
 ∀(vs us:List V) (cx cy:Nat→Value) (r:Bool),(∀j,j<ks.length→VR K (vs.getD j V.undef) (cx j))→(∀j,j<ks.length→VR K (us.getD j V.undef) (cy j))→gG ks vs us=some r→
  (Op.equalIn d t (aAb k cx) (aAb k cy)).run P w= .ok r w
 |0,t,ks,k,h,_=>by simp[aY] at h
 |d+1,t,ks,k,h,hk=>by
  have aAn:∀(lk:LK) (dd:TypeDesc),P.underlying t=some dd→cA P t=some .leaf→ks=[lk]→(dd= .bool∧lk= .bool∨(∃kk,dd= .int kk)∧lk= .int∨dd= .string∧lk= .str)→k.size=ks.length∧
   ∀(vs us:List V) (cx cy:Nat→Value) (r:Bool),(∀j,j<ks.length→VR K (vs.getD j V.undef) (cx j))→(∀j,j<ks.length→VR K (us.getD j V.undef) (cy j))→gG ks vs us=some r→
    (Op.equalIn (d+1) t (aAb k cx) (aAb k cy)).run P w= .ok r w:=by
   intro lk dd hu hs hks hdd;rw[hk] at hs;injection hs with hs;subst hs hks;refine⟨rfl,fun vs us cx cy r hx hy hr=>?_⟩;have hl:=mR _ _ _ _ hr;obtain⟨x,rfl⟩:∃x,vs=[x]:=by
    cases vs with
    |nil=>simp at hl
    |cons x t=>cases t with
     |nil=>exact⟨x,rfl⟩
     |cons _ _=>simp at hl
   obtain⟨y,rfl⟩:∃y,us=[y]:=by
    cases us with
    |nil=>simp at hl
    |cons x t=>cases t with
     |nil=>exact⟨x,rfl⟩
     |cons _ _=>simp at hl
   have h0:VR K x (cx 0):=by simpa using hx 0 Zm
   have h1:VR K y (cy 0):=by simpa using hy 0 Zm
   simp only[aAb];simp only[gG] at hr;generalize cx 0=cvx at h0⊢;generalize cy 0=cvy at h1⊢;rcases hdd with⟨rfl,rfl⟩|⟨⟨kk,rfl⟩,rfl⟩|⟨rfl,rfl⟩
   ·cases x<;>cases y<;>simp only[gR] at hr<;>first|(cases h0;cases h1;injection hr with hr;subst hr;exact run_equalIn_bool' w d t _ _ hu)|simp at hr
   ·cases x<;>cases y<;>simp only[gR] at hr<;>first
     |(cases h0;cases h1;simp only[Option.ite_none_right_eq_some,Option.some.injEq] at hr;obtain⟨rfl,rfl⟩:=hr;exact run_equalIn_int w d t _ _ _ _ hu)
     |simp at hr
   cases x<;>cases y<;>simp only[gR] at hr<;>first|(cases h0;cases h1;injection hr with hr;subst hr;exact run_equalIn_string w d t _ _ hu)|simp at hr
  unfold aY at h;split at h
  ·rename_i hu;split at h
   ·rename_i hs;injection h with h;exact aAn .bool _ hu hs h.symm (.inl ⟨rfl,rfl⟩)
   simp at h
  ·rename_i kk hu;split at h
   ·rename_i hs;injection h with h;exact aAn .int _ hu hs h.symm (.inr (.inl ⟨⟨kk,rfl⟩,rfl⟩))
   simp at h
  ·rename_i hu;split at h
   ·rename_i hs;injection h with h;exact aAn .str _ hu hs h.symm (.inr (.inr ⟨rfl,rfl⟩))
   simp at h
  ·rename_i fs hu;split at h
   ·simp at h
   rename_i hst;have aDy:P.stoodInHeld t=false:=by simpa using hst
   cases hks:fB (aY P d) fs.toList 0 with
   |none=>simp[hks] at h
   |some ks0=>
    simp only[hks,KC] at h;split at h
    ·rename_i hsh;injection h with h;subst h;rw[hk] at hsh;injection hsh with hsh;subst hsh;refine⟨rfl,fun vs us cx cy r hx hy hr=>?_⟩;have hfo:P.fieldsOf t=fs:=by simp[Program.fieldsOf,hu]
     simp only[aAb];rw[run_equalIn_struct w d t _ _ (by rw[hfo];exact hu) aDy,hfo]
     --along the fields
     have key:∀(l:List Field) (off:Nat) (kl:List LK) (vs us:List V) (r:Bool),fB (aY P d) l off=some kl→off+kl.length≤ks0.length→
      (∀j,j<kl.length→VR K (vs.getD j V.undef) (cx (off+j)))→(∀j,j<kl.length→VR K (us.getD j V.undef) (cy (off+j)))→gG kl vs us=some r→
      (Op.eqFields d ((Kh ks0.length).map cx).toArray ((Kh ks0.length).map cy).toArray l).run P w= .ok r w:=by
      intro l;induction l with
      |nil=>
       intro off kl vs us r hkl _ _ _ hr;simp[fB] at hkl;subst hkl;cases vs<;>cases us<;>simp[gG] at hr;subst hr;simp[Op.eqFields]
      |cons f l ih=>
       intro off kl vs us r hkl hle hvx hvy hr;unfold fB at hkl;split at hkl
       ·rename_i hf;obtain⟨hnm,aOB⟩:=hf;cases hkf:aY P d f.type with
        |none=>simp[hkf] at hkl
        |some kf=>
         simp only[hkf,KC] at hkl;cases hkr:fB (aY P d) l (off+kf.length) with
         |none=>simp[hkr] at hkl
         |some kr=>
          simp only[hkr,Option.map_some] at hkl;injection hkl with hkl;subst hkl;obtain⟨r1,r2,e1,e2,rfl⟩:=vQ kf kr vs us r hr;simp only[List.length_append] at hle hvx hvy;have aUD:∃kk,cA P f.type=some kk:=by
           cases d with
           |zero=>simp[aY] at hkf
           |succ d=>
            unfold aY at hkf;split at hkf
            ·split at hkf
             ·exact⟨_,by assumption⟩
             simp at hkf
            ·split at hkf
             ·exact⟨_,by assumption⟩
             simp at hkf
            ·split at hkf
             ·exact⟨_,by assumption⟩
             simp at hkf
            ·split at hkf
             ·simp at hkf
             obtain⟨a,_,hb⟩:=Km.1 hkf;split at hb
             ·exact⟨_,by assumption⟩
             simp at hb
            simp at hkf
          obtain⟨kk,hkk⟩:=aUD;obtain⟨hsz,heq⟩:=pu w d f.type kf kk hkf hkk;have gx:∀(c:Nat→Value) (j:Nat),j<((Kh ks0.length).map c).toArray.size→((Kh ks0.length).map c).toArray.getD j Ke=c j:=fun c j hj=>by
           have:j<ks0.length:=by simpa using hj
           simp[Ka,this]
          have p1:=oI hkk w ((Kh ks0.length).map cx).toArray cx f.offset (by simp;omega) (gx cx);have p2:=oI hkk w ((Kh ks0.length).map cy).toArray cy f.offset (by simp;omega) (gx cy);have ht:∀(vs:List V) (j:Nat),j<kf.length→(vs.take kf.length).getD j V.undef=vs.getD j V.undef:=fun vs j hj=>by
           simp[Ka,Ky,hj]
          have hd:∀(vs:List V) (j:Nat),(vs.drop kf.length).getD j V.undef=vs.getD (kf.length+j) V.undef:=fun vs j=>by
           simp[Ka,Kz]
          have q:=heq (vs.take kf.length) (us.take kf.length) (fun j=>cx (f.offset+j)) (fun j=>cy (f.offset+j)) r1 (fun j hj=>by rw[ht vs j hj,aOB];exact hvx j or) (fun j hj=>by rw[ht us j hj,aOB];exact hvy j or) e1;have q2:=ih (off+kf.length) kr (vs.drop kf.length) (us.drop kf.length) r2 hkr or (fun j hj=>by rw[hd];have:=hvx (kf.length+j) or;rwa [←Ku] at this) (fun j hj=>by rw[hd];have:=hvy (kf.length+j) or;rwa [←Ku] at this) e2;simp only[Op.eqFields,if_pos hnm,Kf,p1,p2,Kd,q,Sem.run_ite,q2,Kp];cases r1<;>simp
       simp at hkl
     exact key fs.toList 0 ks0 vs us r hks or (fun j hj=>by simpa using hx j hj) (fun j hj=>by simpa using hy j hj) hr
    simp at h
  simp at h
end Go.Proofs.YtgbiopfghdilnaaGreatDoor
