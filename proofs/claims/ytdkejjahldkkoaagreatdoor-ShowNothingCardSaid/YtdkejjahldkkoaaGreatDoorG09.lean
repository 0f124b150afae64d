/- Part. -/
import Derived.Test.YtdkejjahldkkoaaGreatDoorG08
import Derived.Laws.Runes
import Derived.Laws.BytesString
import Derived.Laws.Cover4
import Derived.Laws.Cells
set_option linter.unusedSectionVars false
set_option linter.unusedSimpArgs false
set_option linter.unusedVariables false
namespace Go.Ab
open Go
variable [eW]
variable {ρ ρ' :Gh} {w w' :World}{P:Program}{pn:iO}{G:Gl}{X:iJ}{A:nJ} {s s' :St}{env:Env}{a:Act}{lo:Nat}{d:D}{C:au}{al:Option Nat}
section
variable (he:eu ρ w lo env a.tmps)(hg:gF pn G ρ w)(hs:bZ ρ s w)
include he hg hs
omit he hg hs in
theorem og {t:TypeId}{i:TypeInfo}(h:P.types[t]? =some i):P.info? t=some i:=by
 have dQ:t < P.types.size:=by
  rcases aG t P.types.size with h1 | h1
  ·exact h1
  ·rw [cw h1]at h; cases h
 unfold Tables.info?;rw [bJ dQ,h]
omit he hg hs in
theorem HO {ok b:Bool}{v:D}{u:Value}(h:aS ρ w v u):aS ρ w (Fl ok v b) (if ok then .tuple #[u,.bool b] else u):=by
 cases ok with
 | false=>simpa [Fl] using h
 | true=>simp only [Fl,ep,aS,br]; exact ⟨_,rfl,_,_,rfl,h,_,_,rfl,rfl,rfl⟩
theorem Gx {t xt:TypeId}{z:D}{ok:Bool} {x' :Operand}{x:bP}(hx:eK G x' =some x){e:TypeDesc}(hu:P.underlying t=some e)(PH:∀ms,e≠ .interface ms)(hz:jI P t=some z)
  (h:cB C env s al (.sF t z ok x)=some (d,s')){o:Oper}(ho:o.op= .typeAssert x' xt t ok):fb P ρ w env a.tmps d s' ((execOp a.eval o).run P w):=by
 obtain⟨zv,z1,z2,_⟩:=kz (w:=w) hz;have hzr:aS ρ w z zv:=kh _ _ z2
 have Ek:∀dy:Option TypeId,ok=true->aS ρ w (.gJ [z,.bool false]) (.tuple #[zv,.bool false]):=fun _ _=>by
  simp only [aS,br]; exact ⟨_,rfl,_,_,rfl,hzr,_,_,rfl,rfl,rfl⟩
 simp only [cB]at h;split at h
 ·rename_i u v hp;have hv:=aZ hx he hg hp;simp only [aS]at hv;obtain⟨q,hv,hq⟩:=hv;split at h
  ·rename_i hb;obtain rfl:=aF hb;simp only [aa,ab]at h;obtain⟨rfl,rfl⟩:=h;have hr:(execOp a.eval o).run P w= .ok (.value (if ok then .tuple #[q,.bool true] else q)) w:=by
    simp only [execOp,ho,hv,Instr.typeAssert]
    cases e <;> first
     | exact absurd rfl (PH _)
     | (simp [run_underlying hu])
   rw [hr]; exact .rep hs (HO hq)
  ·rename_i hb;have cC:u≠t:=by rintro rfl; rw [az]at hb; cases hb
   split at h
   ·simp only [aa,ab]at h;obtain⟨rfl,rfl⟩:=h;have hr:(execOp a.eval o).run P w= .ok (.value (.tuple #[zv,.bool false])) w:=by
     simp only [execOp,ho,hv,Instr.typeAssert]
     cases e <;> first
      | exact absurd rfl (PH _)
      | (simp [run_underlying hu,cC,z1])
    rw [hr]; exact .rep hs (Ek none rfl)
   ·cases h
 ·rename_i hp;have hv:=aZ hx he hg hp;simp only [aS]at hv;split at h
  ·simp only [aa,ab]at h;obtain⟨rfl,rfl⟩:=h;have hr:(execOp a.eval o).run P w= .ok (.value (.tuple #[zv,.bool false])) w:=by
    simp only [execOp,ho,hv,Instr.typeAssert]
    cases e <;> first
     | exact absurd rfl (PH _)
     | (simp [run_underlying hu,z1])
   rw [hr]; exact .rep hs (Ek none rfl)
  ·cases h
 ·cases h
omit he hg hs in
theorem o8 {o:Nat}:∀ {l:List Nat},pX o l=true↔o∈l
 | []=>by simp [pX]
 | x::r=>by
  simp only [pX,bS];split
  ·rename_i h; exact ⟨fun _=> .inl (aF h).symm,fun _=>rfl⟩
  ·rename_i h;rw [o8];exact⟨.inr,fun q=>q.resolve_left (by rintro rfl; rw [az]at h; cases h)⟩
omit he hg hs in
theorem uw {want:Array (String×TypeId)}{got:Array Method}:Instr.missingMethod want got=none↔Mu want got=[]:=by
 unfold Instr.missingMethod Mu;simp only [Array.any_toList];generalize want.toList.filter _=L;have hle:∀l:List String,Instr.least l=none↔l=[]:=fun l=>by cases l <;> simp [Instr.least]
 simp only [Option.or_eq_none_iff,Option.orElse_eq_orElse,hle,nV,List.partition_eq_filter_filter,Option.orElse_eq_or];constructor
 ·rintro⟨h1,h2⟩;cases L with
  | nil=>rfl
  | cons a r=>
   exfalso;simp only [bG,List.filter_cons,Function.comp]at h1 h2;cases h:a.1.contains '.' <;> simp [h]at h1 h2
 ·rintro rfl; simp
omit he hg hs in
theorem AL {want:Array (String×TypeId)}{u:Nat}:pX u (HD P want)=true↔∃i,P.types[u]? =some i/\Instr.missingMethod want i.methods=none:=by
 rw [o8];unfold HD;simp only [jP,Prod.exists];constructor
 ·rintro⟨i,t,h1,h2⟩;rw [jZ]at h1;split at h2
  ·rename_i hm;simp only [aa]at h2; subst h2;exact⟨i,by simpa using h1,uw.2 hm⟩
  ·cases h2
 ·rintro⟨i,h1,h2⟩;refine⟨i,u, ?_, ?_⟩
  ·rw [jZ]; simpa using h1
  ·simp only [uw.1 h2]
theorem Fb {t xt:TypeId}{want:Array (String×TypeId)}{ok:Bool} {x' :Operand}{x:bP}(hx:eK G x' =some x)(hu:P.underlying t=some (.interface want))(hz:jI P t=some .nv)
  (h:cB C env s al (.rS P.types.size (HD P want) ok x)=some (d,s')){o:Oper}(ho:o.op= .typeAssert x' xt t ok):fb P ρ w env a.tmps d s' ((execOp a.eval o).run P w):=by
 obtain⟨zv,z1,z2,_⟩:=kz (w:=w) hz;have hzr:aS ρ w .nv zv:=kh _ _ z2;have Ek:aS ρ w (.gJ [.nv,.bool false]) (.tuple #[zv,.bool false]):=by
  simp only [aS,br]at *; exact ⟨_,rfl,_,_,rfl,hzr,_,_,rfl,rfl,rfl⟩
 simp only [cB]at h;split at h
 ·rename_i u v hp;have hv:=aZ hx he hg hp;have kq:=hv;simp only [aS]at hv;obtain⟨q,hv,hq⟩:=hv;split at h
  ·rename_i hb;obtain⟨i,hi,hm⟩:=AL.1 hb;simp only [aa,ab]at h;obtain⟨rfl,rfl⟩:=h;have hr:(execOp a.eval o).run P w= .ok (.value (if ok then .tuple #[a.eval x',.bool true] else a.eval x')) w:=by
    simp only [execOp,ho,hv,Instr.typeAssert];simp [run_underlying hu,typeInfo,og hi,hm]
   rw [hr]; exact .rep hs (HO kq)
  ·rename_i hb;split at h
   ·rename_i hc;simp only [aA]at hc;obtain⟨rfl,dQ⟩:=hc;have dQ:u < P.types.size:=ax dQ;simp only [aa,ab]at h;obtain⟨rfl,rfl⟩:=h;have hi:P.types[u]? =some P.types[u]:=cz dQ;cases hm:Instr.missingMethod want P.types[u].methods with
    | none=>exact absurd (AL.2 ⟨_,hi,hm⟩) (by rw [hb]; simp)
    | some msg=>
     have hr:(execOp a.eval o).run P w= .ok (.value (.tuple #[zv,.bool false])) w:=by
      simp only [execOp,ho,hv,Instr.typeAssert];simp [run_underlying hu,typeInfo,og hi,hm,z1]
     rw [hr]; exact .rep hs Ek
   ·cases h
 ·rename_i hp;have hv:=aZ hx he hg hp;simp only [aS]at hv;split at h
  ·simp only [aa,ab]at h;obtain⟨rfl,rfl⟩:=h;have hr:(execOp a.eval o).run P w= .ok (.value (.tuple #[zv,.bool false])) w:=by
    simp only [execOp,ho,hv,Instr.typeAssert];simp [run_underlying hu,z1]
   rw [hr]; exact .rep hs Ek
  ·cases h
 ·cases h
omit he hg hs in
theorem Iw {mx:Bool}:∀(l:List D) (vs:List Value) (d0 d:D) (v0:Value),Pe mx d0 l=some d->aS ρ w d0 v0->br ρ w l vs->∃v,(vs.foldlM (if mx then Builtin.max2 else Builtin.min2) v0).run P w= .ok v w/\aS ρ w d v
 | [],vs,d0,d,v0,h,h0,hl=>by
  simp only [br]at hl; subst hl;have:Pe mx d0 []=some d0:=by cases d0 <;> rfl
  rw [this]at h;simp only [aa]at h; subst h;exact⟨v0,by simp,h0⟩
 | x::l,vs,d0,d,v0,h,h0,hl=>by
  simp only [br]at hl;obtain⟨v1,r,rfl,h1,h2⟩:=hl;unfold Pe at h;split at h
  ·rename_i hh; cases hh
  ·rename_i k p j q l2 hh;simp only [ey]at hh;obtain⟨rfl,rfl⟩:=hh;split at h
   ·rename_i hk;obtain rfl:=bA hk;simp only [aS]at h0 h1;subst h0 h1;obtain⟨v,g1,g2⟩:=Iw l r _ d _ h rfl h2;refine⟨v, ?_,g2⟩;rw [List.foldlM_cons];cases mx <;> simpa [Builtin.max2,Builtin.min2] using g1
   ·cases h
  ·cases h
theorem By {mx:Bool} {l' :List Operand}{l:List bP}{tys:Array TypeId}(hl:l'.mapM (eK G)=some l)(h:cB C env s al (.tS mx l)=some (d,s')){o:Oper}(ho:o.op= .call { callee:= .builtin (if mx then .max else .min),args:=l'.toArray,argTypes:=tys}):
  fb P ρ w env a.tmps d s' ((execOp a.eval o).run P w):=by
 simp only [cB]at h;split at h
 ·rename_i d0 r QT;obtain⟨h1,rfl⟩:=jy h;have hr:=oh he hg _ _ _ hl QT;simp only [br]at hr;obtain⟨v0,vr,e1,e2,e3⟩:=hr;obtain⟨v,g1,g2⟩:=Iw (P:=P) r vr d0 d v0 h1 e2 e3;have fW:(execOp a.eval o).run P w= .ok (.value v) w:=by
   cases mx with
   | false=>
    rw [iE (b:= .min) ho];simp only [builtin,Builtin.min_,ft,e1];rw [Sem.run_bind];simp only [iw,db]at g1;rw [g1]; rfl
   | true=>
    rw [iE (b:= .max) ho];simp only [builtin,Builtin.max_,ft,e1];rw [Sem.run_bind];simp only [ep]at g1;rw [g1]; rfl
  rw [fW]; exact .rep hs g2
 ·cases h
end
end Go.Ab
namespace Go.Ab
open Go
variable [eW]
variable {ρ ρ' :Gh} {w w' :World}{P:Program}{pn:iO}{G:Gl}{X:iJ}{A:nJ} {s s' :St}{env:Env}{a:Act}{lo:Nat}{d:D}{C:au}{al:Option Nat}
theorem fO.erase:∀ {es:List (Nat×D×D)} {ces:List MapEntry} (i:Nat),fO ρ w es ces->fO ρ w (es.eraseIdx i) (ces.eraseIdx i)
 | [],_,i,h=>by simp only [fO]at h; subst h; simp [fO]
 | (n,k,v)::es,_,i,h=>by
  simp only [fO]at h;obtain⟨e,r,rfl,h1,h2,h3,h4⟩:=h;cases i with
  | zero=>simpa using h4
  | succ i=>
   simp only [List.eraseIdx_cons_succ,fO];exact⟨e,_,rfl,h1,h2,h3,fO.erase i h4⟩
section
variable (he:eu ρ w lo env a.tmps)(hg:gF pn G ρ w)(hs:bZ ρ s w)
include he hg hs
theorem Jo {t q e:TypeId}{et:ET} {m' k' :Operand}{m k:bP}{tys:Array TypeId}(hm:eK G m' =some m)(hk:eK G k' =some k)(hu:P.underlying t=some (.map q e))(het:sP P 8 q=some et)(rq:tys[0]? =some t)
  (h:cB C env s al (.delete et m k)=some (d,s')){o:Oper}(ho:o.op= .call { callee:= .builtin .delete,args:= #[m',k'],argTypes:=tys}):fb P ρ w env a.tmps d s' ((execOp a.eval o).run P w):=by
 have fin:∀w',(Builtin.delete_ tys o.type #[a.eval m',a.eval k']).run P w= .ok (.tuple #[]) w' ->(execOp a.eval o).run P w= .ok (.value (.tuple #[])) w' :=by
  intro w' hw;rw [iE (b:= .delete) ho];simp only [builtin,ft,bG,ed];rw [Sem.run_bind,hw]; rfl
 simp only [cB]at h;split at h
 ·rename_i dm dk Xy WG;split at h
  ·cases h
  ·rename_i gW;have xE:=aZ hm he hg Xy;have ya:=aZ hk he hg WG;have Fx:∀em,(Instr.checkKey em 10000 q (a.eval k')).run P w= .ok () w:=fun em=>pM em 8 q et het 10000 (by decide) dk _ gW ya;split at h
   ·simp only [aa,ab]at h;obtain⟨rfl,rfl⟩:=h;simp only [aS]at xE;have hr:(Builtin.delete_ tys o.type #[a.eval m',a.eval k']).run P w= .ok (.tuple #[]) w:=by
     unfold Builtin.delete_;simp [rq,xE,run_underlying hu,Fx]
    rw [fin _ hr];exact .rep hs (by simp [aS,br])
   ·rename_i ob;split at h
    ·rename_i es c lF;obtain⟨b,ces,k1,one,hb,hM⟩:=hs.ok _ _ lF;simp only [aS,Gh.at,k1]at xE;obtain⟨b',jm,xE⟩:=xE;obtain rfl:=one.2 _ jm;split at h
     ·rename_i i v0 hf;obtain⟨h1,rfl⟩:=iq h;obtain⟨r',g1,g2⟩:=lL (P:=P) het ya hM hf;obtain⟨u0,rfl,g3⟩:=g2
      obtain⟨n1,n2⟩:=lP (ces' :=ces.eraseIdxIfInBounds i) hs lF k1 one hb (by
       have:(ces.eraseIdxIfInBounds i).toList=ces.toList.eraseIdx i:=by
        unfold Array.eraseIdxIfInBounds;split
        ·simp [Array.toList_eraseIdx]
        ·rename_i dQ;rw [List.eraseIdx_of_length_le (by simpa using dQ)]
       rw [this];exact fO.erase i hM) h1
      have hr:(Builtin.delete_ tys o.type #[a.eval m',a.eval k']).run P w= .ok (.tuple #[]) { w with heap:=w.heap.setIfInBounds b' (.map (ces.eraseIdxIfInBounds i) c)}:=by
       unfold Builtin.delete_;simp [rq,xE,run_underlying hu,Fx,kC hb,g1,ku _ hb]
      rw [fin _ hr];exact .val n1 n2 (by simp [aS,br])
     ·rename_i hf;obtain⟨h1,rfl⟩:=iq h;obtain⟨r',g1,g2⟩:=lL (P:=P) het ya hM hf;simp only [Found]at g2; subst g2;obtain⟨n1,n2⟩:=lP (ces' :=ces) hs lF k1 one hb hM h1;have hr:(Builtin.delete_ tys o.type #[a.eval m',a.eval k']).run P w= .ok (.tuple #[]) { w with heap:=w.heap.setIfInBounds b' (.map ces c)}:=by
       unfold Builtin.delete_;simp [rq,xE,run_underlying hu,Fx,kC hb,g1,ku _ hb]
      rw [fin _ hr];exact .val n1 n2 (by simp [aS,br])
     ·cases h
    ·cases h
   ·cases h
 ·cases h
theorem NI {t:TypeId} {x' :Operand}{x:bP}(hx:eK G x' =some x)(hu:P.underlying t=some .string)(h:cB C env s al (.range x)=some (d,s')){o:Oper}(ho:o.op= .range t x'):
  fb P ρ w env a.tmps d s' ((execOp a.eval o).run P w):=by
 simp only [cB]at h;split at h
 ·rename_i l hp;have hv:=aZ hx he hg hp;simp only [aS]at hv;split at h
  ·rename_i k s2 hm;simp only [aa,ab]at h;obtain⟨rfl,rfl⟩:=h;obtain⟨n1,n2,n3,n4⟩:=yu (w' :=w.alloc (.stringIter ⟨⟨l⟩⟩ 0)) hs hm 1 0 0 rfl rfl rfl rfl (fun hK nM hh=>⟨w.heap.size,by simp [Gh.new],nM,hh⟩);have fW:(execOp a.eval o).run P w= .ok (.value (.pointer (some ⟨w.heap.size,0,none⟩))) (w.alloc (.stringIter ⟨⟨l⟩⟩ 0)):=by
    simp only [execOp,ho];simp [Instr.range,run_underlying hu,hv,newObj];rfl
   rw [fW];exact .val n1 n2 (by simp only [aS,Gh.at,n4]; exact ⟨_,n3,rfl⟩)
  ·cases h
 ·cases h
theorem LB {x' :Operand}{x:bP}(hx:eK G x' =some x)(h:cB C env s al (.uF x)=some (d,s')){o:Oper}(ho:o.op= .next x' true):
  fb P ρ w env a.tmps d s' ((execOp a.eval o).run P w):=by
 simp only [cB]at h;split at h
 ·rename_i ob hp;have hv:=aZ hx he hg hp;split at h
  ·rename_i l pos lF;obtain⟨b,k1,one,hb⟩:=hs.ok _ _ lF;simp only [aS,Gh.at,k1]at hv;obtain⟨b',jm,hv⟩:=hv;obtain rfl:=one.2 _ jm;have kM:(getObj b').run P w= .ok (.stringIter ⟨⟨l⟩⟩ pos) w:=by simp [getObj,Sem.run,hb]
   have gL:∀ob:Go.Obj,(setObj b' ob).run P w= .ok () { w with heap:=w.heap.setIfInBounds b' ob}:=fun ob=>by simp [setObj,Sem.run,hb]
   split at h
   ·rename_i dQ;have dQ:pos < l.length:=ax dQ;obtain⟨h1,rfl⟩:=iq h
    obtain⟨n1,n2⟩:Kp ρ w ρ { w with heap:=w.heap.setIfInBounds b' (.stringIter ⟨⟨l⟩⟩ (pos+(Utf8.decode ⟨⟨l⟩⟩ pos).2))}/\bZ ρ s' { w with heap:=w.heap.setIfInBounds b' (.stringIter ⟨⟨l⟩⟩ (pos+(Utf8.decode ⟨⟨l⟩⟩ pos).2))}:=
     sw hs h1 one.1 (hs.lt _ _ lF) (fun _ h=>wP h) (by simp) rfl rfl rfl fun hK=>⟨b',k1,one,w9 (xm hb)⟩
    have hr:(execOp a.eval o).run P w= .ok (.value (.tuple #[.bool true,goInt pos,.int .i32 (Utf8.decode ⟨⟨l⟩⟩ pos).1])) { w with heap:=w.heap.setIfInBounds b' (.stringIter ⟨⟨l⟩⟩ (pos+(Utf8.decode ⟨⟨l⟩⟩ pos).2))}:=by
     simp only [execOp,ho,hv,Instr.next];rw [Sem.run_bind,Sem.run_bind,kM];simp [ByteArray.size_mk',dQ,gL]
    rw [hr];exact .val n1 n2 (by simp [aS,br,Fy,goInt])
   ·rename_i dQ
    have dQ: ¬ pos < l.length:=fun hc=>by
     have:Nat.blt pos l.length=true:=aq hc;rw [this]at dQ; cases dQ
    simp only [aa,ab]at h;obtain⟨rfl,rfl⟩:=h;have hr:(execOp a.eval o).run P w= .ok (.value (.tuple #[.bool false])) w:=by
     simp only [execOp,ho,hv,Instr.next];rw [Sem.run_bind,Sem.run_bind,kM];simp [ByteArray.size_mk',dQ]
    rw [hr];exact .rep hs (by simp [aS,br])
  ·cases h
 ·cases h
end
end Go.Ab
namespace Go.Ab
open Go
variable [eW]
variable {ρ ρ' :Gh} {w w' :World}{P:Program}{pn:iO}{G:Gl}{X:iJ}{A:nJ} {s s' :St}{env:Env}{a:Act}{lo:Nat}{d:D}{C:au}{al:Option Nat}
theorem Ei:∀ {l:List (Nat×Nat×Recv)} {t:Nat} {r:Nat×Recv},sR l t=some r->(t,r)∈l
 | [],_,_,h=>by simp [sR]at h
 | (x,g)::r,t,f,h=>by
  simp only [sR]at h;split at h
  ·rename_i hb;obtain rfl:=aF hb;simp only [aa]at h; subst h;exact List.mem_cons_self
  ·exact eE _ (Ei h)
theorem vg {name:String}{t f:Nat}{r:Recv}(h:sR (oo P name) t=some (f,r)):∃i m ptr,P.types[t]? =some i/\i.methods.find? (·.name==name)=some m/\m.func=some (f,ptr)/\I3 P t m.path.toList ptr=some r:=by
 have hm:=Ei h;unfold oo at hm;simp only [jP,Prod.exists]at hm;obtain⟨i,t',h1,h2⟩:=hm;rw [jZ]at h1;split at h2
 ·rename_i m hm;split at h2
  ·rename_i g ptr hf;simp only [aY,ab]at h2;obtain⟨r',h2,rfl,rfl,rfl⟩:=h2;exact⟨i,m,ptr,by simpa using h1,hm,hf,h2⟩
  ·cases h2
 ·cases h2
theorem qE {e:Option TypeDesc}{k:Nat}(h:kT e=k)(hk:k=0\/k=1):∃q,e=some q:=by
 unfold kT at h;split at h <;> first | exact ⟨_,rfl⟩ | omega
theorem Cq {xt:TypeId}{x:Place}{ptr:Bool}{wr:Option String}(h:(kT (P.underlying xt)=0/\ptr=true)\/(kT (P.underlying xt)=1/\ptr=false)):(receiverAt xt x ptr wr).run P w=(x.get xt).run P w:=by
 have hq:∃q,P.underlying xt=some q:=h.elim (fun h=>qE h.1 (.inl rfl)) (fun h=>qE h.1 (.inr rfl));obtain⟨q,hq⟩:=hq;rw [hq]at h;unfold receiverAt;rw [Sem.run_bind,run_underlying hq]
 rcases h with ⟨h,rfl⟩ | ⟨h,rfl⟩ <;> cases q <;> first
  | (simp [kT]at h; done)
  | (cases x <;> rfl)
theorem Nq {xt:TypeId}{a:Addr}{wr:Option String}(h:kT (P.underlying xt)=1):(receiverAt xt (.var a) true wr).run P w= .ok (.pointer (some a)) w:=by
 obtain⟨q,hq⟩:=qE h (.inr rfl);rw [hq]at h;unfold receiverAt;rw [Sem.run_bind,run_underlying hq]
 cases q <;> first
  | (simp [kT]at h; done)
  | rfl
theorem Hz {off:Nat}{x y:D}{v:Value}(h:P4 off x=some y)(hv:aS ρ w x v):∃a,v= .pointer (some a)/\aS ρ w y (.pointer (some (a.add off))):=by
 unfold P4 at h;split at h
 ·rename_i o c;simp only [aa]at h; subst h;simp only [aS]at hv ⊢;unfold Gh.at at *;split at hv
  ·exact hv.elim
  ·obtain⟨q,rfl⟩:=hv; exact ⟨q,rfl,_,rfl⟩
  ·obtain⟨b,hb,rfl⟩:=hv; exact ⟨_,rfl,b,hb,by rw [Addr.add_mid]⟩
 ·rename_i o i c e;simp only [aa]at h; subst h;simp only [aS]at hv ⊢;unfold Gh.at at *;split at hv
  ·exact hv.elim
  ·obtain⟨q,rfl⟩:=hv; exact ⟨q,rfl,_,rfl⟩
  ·obtain⟨b,hb,h1,h2,h3,rfl⟩:=hv; exact ⟨_,rfl,b,hb,h1,h2,h3,by rw [Addr.add_mid,iF]⟩
 ·rename_i e c;simp only [aa]at h; subst h;simp only [aS]at hv ⊢;obtain⟨b,x,u,h1,h2,h3,h4,rfl⟩:=hv;exact⟨_,rfl,b,x,u,h1,h2,h3,h4,by rw [Addr.add_mid,iF]⟩
 ·cases h
theorem OL {p:Array FieldStep}{st:FieldStep}(h:p.toList=[st]):p.isEmpty=false:=by
 cases hp:p.isEmpty with
 | false=>rfl
 | true=>
  have:p= #[]:=by simpa using hp
  rw [this]at h; cases h
theorem RM (hs:bZ ρ s w){name:String}{t f n:Nat}{r:Recv} {v v' :D}{u:Value}(h:sR (oo P name) t=some (f,r))(hr:rW s v r=some v')(hv:aS ρ w v u):
  ∃u',(method (n+1) t u name).run P w= .ok (f,u') w/\aS ρ w v' u' :=by
 obtain⟨i,m,ptr,g1,g2,g3,g4⟩:=vg h;unfold I3 at g4;split at g4
 ·rename_i sV;have key:(kT (P.underlying t)=0/\ptr=true)\/(kT (P.underlying t)=1/\ptr=false)->r= .self->∃u',(method (n+1) t u name).run P w= .ok (f,u') w/\aS ρ w v' u' :=by
   rintro hk rfl;simp only [rW,aa]at hr; subst hr;refine⟨u, ?_,hv⟩;simp only [method,typeInfo];simp [og g1,g2,sV,follow,g3,Cq hk,Place.get]
  split at g4
  ·rename_i hk;simp only [aa]at g4;exact key (.inl ⟨hk,rfl⟩) g4.symm
  ·rename_i hk;simp only [aa]at g4;exact key (.inr ⟨hk,rfl⟩) g4.symm
  ·cases g4
 ·rename_i st sV;have cC:=OL sV;split at g4
  ·rename_i fs dT;split at g4
   ·rename_i fl RF;have stepD:st.deref=true->∀(a:Addr) (m0:Nat),u= .pointer (some a)->dM P fl.type=some (m0+1)->(follow [st] t (.val u)).run P w= .ok (fl.type,.var (a.add fl.offset)) w:=by
     intro hd a m0 hu fR;subst hu;simp [follow,run_underlying dT,RF,hd,Place.get,asAddr,fieldPlace,fU fR]
    split at g4
    ·rename_i hd;split at g4
     ·rename_i hk;simp only [aA,iS]at hk;obtain⟨hk,acm⟩:=hk;subst acm;split at g4
      ·rename_i m0 fR;simp only [aa]at g4; subst g4;simp only [rW]at hr;obtain⟨a,hu,ha⟩:=Hz hr hv;refine⟨_, ?_,ha⟩;simp only [method,typeInfo];simp [og g1,g2,sV,stepD hd a m0 hu fR,g3,cC,Nq hk]
      ·cases g4
     split at g4
     ·rename_i m0 sz ZO fR gZ;simp only [aa]at g4; subst g4;simp only [rW]at hr;split at hr
      ·rename_i p hp;obtain⟨a,hu,ha⟩:=Hz hp hv;obtain⟨u',k1,k2⟩:=BK (P:=P) hs gZ hr ha;have hk:(kT (P.underlying fl.type)=0/\ptr=true)\/(kT (P.underlying fl.type)=1/\ptr=false):=by
        simp only [eC,aA,iS,fe]at ZO;exact ZO
       have k1' :(loadVar fl.type (a.add fl.offset)).run P w= .ok u' w:=by
        simpa [Instr.loadAt,Instr.sureAddr] using k1
       refine⟨u', ?_,k2⟩;simp only [method,typeInfo];simp [og g1,g2,sV,stepD hd a m0 hu fR,g3,cC,Cq hk,Place.get,k1']
      ·cases hr
     ·cases g4
    ·rename_i hd;split at g4
     ·rename_i sz ZO gZ;simp only [aa]at g4; subst g4;simp only [rW]at hr;split at hr
      ·rename_i cs;simp only [aS]at hv;obtain⟨vs,rfl,hl,HY⟩:=hv;obtain⟨u',k1,k2⟩:=qm (P:=P) (w:=w) hl HY gZ hr;have hk:(kT (P.underlying fl.type)=0/\ptr=true)\/(kT (P.underlying fl.type)=1/\ptr=false):=by
        simp only [eC,aA,iS,fe]at ZO;exact ZO
       refine⟨u', ?_,k2⟩;simp only [method,typeInfo];simp [og g1,g2,sV,follow,run_underlying dT,RF,hd,k1,g3,cC,Cq hk,Place.get]
      ·cases hr
     ·cases g4
   ·cases g4
  ·cases g4
 ·cases g4
section
variable (he:eu ρ w lo env a.tmps)(hg:gF pn G ρ w)(hs:bZ ρ s w)
include he hg hs
theorem Kb (hC:c9 pn P G C) {x' :Operand}{name:String}{x:bP} {args' :Array Operand}{args:List bP}(hx:eK G x' =some x)(ha:rV G args' =some args)(h:cB C env s al (.invoke (oo P name) x args)=some (d,s')){o:Oper}{tys:Array TypeId}
  (ho:o.op= .call { callee:= .invoke x' name,args:=args',argTypes:=tys}):fb P ρ w env a.tmps d s' ((execOp a.eval o).run P w):=by
 simp only [cB]at h;split at h
 ·rename_i t v l HN hl;split at h
  ·rename_i f r hf;split at h
   ·rename_i v' hrv;have hr:=oh he hg _ _ l ha hl;have hv:=aZ hx he hg HN;simp only [aS]at hv;obtain⟨u,hv,hu⟩:=hv;obtain⟨u',aaB,tz⟩:=RM (n:=P.types.size+99) hs hf hrv hu;have hq:br ρ w (v' ::l) (u' ::List.map a.eval args'.toList):=by simp only [br]; exact ⟨u',_,rfl,tz,hr⟩
    have fW:(execOp a.eval o).run P w= .ok (.enter f (#[u']++args'.map a.eval)) w:=by
     simp only [execOp,ho,resolve,hv];have:=hC.enter _ _ _ _ h (.inr hq.yS) (#[u']++args'.map a.eval) w;have hd:P.types.size+Made.depth=(P.types.size+99)+1:=rfl;have hex:(#[Value.iface t u]++args'.map a.eval).extract 1 (#[Value.iface t u]++args'.map a.eval).size=args'.map a.eval:=by
      apply dG;simp only [Array.toList_extract,Array.toList_append,jD,kj,Array.size_map,km,aU,bL,iL,cA,List.extract_eq_take_drop,nX,gv];exact eY (by simp)
     have h0:(#[Value.iface t u]++args'.map a.eval)[0]? =some (.iface t u):=by simp [Array.getElem?_append]
     have hm1:(callMethod (.iface t u) name (args'.map a.eval)).run P w= .ok (.enter f (#[u']++args'.map a.eval)) w:=by
      simp [callMethod,hd,aaB,this]
     show (do let d ← (pure { target:= .fn (.method name) #[],args:= #[Value.iface t u]++args'.map a.eval}:Sem Deferred); Go.invoke d.target d.args:Sem Next).run P w=_;simp only [Sem.run_bind,Sem.run_pure,Result.andThen_ok,invoke,h0,hex];exact hm1
    rw [fW];refine⟨rfl, ?_⟩;have:=hC.calls _ _ _ _ _ ρ w (u' ::List.map a.eval args'.toList) h hs hg (by simp only [br]; exact ⟨u',_,rfl,tz,hr⟩);have e:(u' ::List.map a.eval args'.toList).toArray= #[u']++args'.map a.eval:=by
     apply dG; simp
    rwa [e]at this
   ·cases h
  ·cases h
 ·cases h
end
theorem Ag {name:String}{t f n:Nat}{u:Value}(h:sR (oo P name) t=some (f,.self)):(nilAhead (n+1) t u name).run P w= .ok (some false) w:=by
 obtain⟨i,m,ptr,g1,g2,g3,g4⟩:=vg h;unfold I3 at g4;split at g4
 ·rename_i sV;have hx:(kT (P.underlying t)=0/\ptr=true)\/(kT (P.underlying t)=1/\ptr=false):=by
   split at g4
   ·rename_i hk; exact .inl ⟨hk,rfl⟩
   ·rename_i hk; exact .inr ⟨hk,rfl⟩
   ·cases g4
  simp only [nilAhead,typeInfo];rcases hx with ⟨hk,rfl⟩ | ⟨hk,rfl⟩
  ·simp [og g1,g2,sV,followBlind,g3]
  ·obtain⟨q,hq⟩:=qE hk (.inr rfl);rw [hq]at hk;simp only [og g1,g2,sV,followBlind,g3,Sem.run_bind,Result.andThen_ok,Sem.run_pure,dn,run_underlying hq];simp [og g1,g2,sV,followBlind,g3,run_underlying hq]
   cases q <;> first
    | (simp [kT]at hk; done)
    | rfl
 ·split at g4
  ·split at g4
   ·split at g4
    ·split at g4
     ·split at g4 <;> cases g4
     ·split at g4 <;> cases g4
    ·split at g4 <;> cases g4
   ·cases g4
  ·cases g4
 ·cases g4
section
variable (he:eu ρ w lo env a.tmps)(hg:gF pn G ρ w)(hs:bZ ρ s w)
include he hg hs
theorem OY {x' :Operand}{name:String}{x:bP}(hx:eK G x' =some x)(h:cB C env s al (.Au name (oo P name) x)=some (d,s')){o:Oper}(ho:o.op= .nilCheck x'):
  fb P ρ w env a.tmps d s' ((execOp a.eval o).run P w):=by
 simp only [cB]at h;split at h
 ·rename_i n t v y HN;split at h
  ·rename_i f hn hf;simp only [ij]at hn;subst hn;simp only [aa,ab]at h;obtain⟨rfl,rfl⟩:=h;have hv:=aZ hx he hg HN;have CL :=hv;simp only [aS]at hv;obtain⟨va,vc,hv,hu,hc⟩:=hv
   obtain⟨u0,hl,u,rfl,tz⟩:∃u0,va.toList=[u0]/\∃u,u0= .iface t u/\aS ρ w v u:=by
    simp only [br]at hu;obtain⟨q,r,e1,e2,e3⟩:=hu;subst e3;simp only [aS]at e2;obtain⟨u,e4,e5⟩:=e2;exact⟨q,e1,u,e4,e5⟩
   have h0:va[0]? =some (.iface t u):=by
    rw [← Array.getElem?_toList,hl]; rfl
   have hna:=Ag (P:=P) (w:=w) (n:=P.types.size+99) (u:=u) hf;have hd:P.types.size+Made.depth=(P.types.size+99)+1:=rfl;have fW:(execOp a.eval o).run P w= .ok (.value (a.eval x')) w:=by
    simp only [execOp,ho,hv,h0];simp [hd,hna]
   rw [fW];exact .rep hs CL
  ·cases h
 ·cases h
end
end Go.Ab
namespace Go.Ab
open Go
variable [eW]
variable {ρ ρ' :Gh} {w w' :World}{P:Program}{pn:iO}{G:Gl}{X:iJ}{A:nJ} {s s' :St}{env:Env}{a:Act}{lo:Nat}{d:D}{C:au}{al:Option Nat}
section
variable (he:eu ρ w lo env a.tmps)(hg:gF pn G ρ w)(hs:bZ ρ s w)
include he hg hs
theorem Gz {t e:TypeId}{m bytes:Nat}{i:TypeInfo}{z:D} {l' c' :Operand}{l c:bP}(hl:eK G l' =some l)(hc:eK G c' =some c)(hu:P.underlying t=some (.slice e))(fR:dM P e=some (m+1))(hz:jI P e=some z)(hi:P.info? e=some i)(hb:i.bytes=bytes)
  (h:cB C env s al (.oq (m+1) bytes e z l c)=some (d,s')){o:Oper}(ho:o.op= .makeSlice t l' c'):fb P ρ w env a.tmps d s' ((execOp a.eval o).run P w):=by
 simp only [cB]at h;split at h
 ·rename_i dl dc hdl hdc;have na:=aZ hl he hg hdl;have CR:=aZ hc he hg hdc;split at h
  ·rename_i nl nc qW VU;split at h
   ·rename_i h1 h2 h3;simp only [aA]at h1;obtain⟨h1,dK⟩:=h1;have h1:=ax h1;have h2:=ax h2;have h3:=ax h3;have hmx:aL=2147483648:=rfl;split at h
    ·rename_i k s2 hm;simp only [aa,ab]at h;obtain⟨rfl,rfl⟩:=h
     obtain⟨kl,vl,e1,e2⟩:∃k n,a.eval l' = .int k n/\(0<=n/\n.toNat=nl):=by
      unfold idx at qW;split at qW
      ·split at qW
       ·simp only [aa]at qW;simp only [aS]at na;exact⟨_,_,na,by assumption,qW⟩
       ·cases qW
      ·cases qW
     obtain⟨kc,vc,e3,e4⟩:∃k n,a.eval c' = .int k n/\(0<=n/\n.toNat=nc):=by
      unfold idx at VU;split at VU
      ·split at VU
       ·simp only [aa]at VU;simp only [aS]at CR;exact⟨_,_,CR,by assumption,VU⟩
       ·cases VU
      ·cases VU
     obtain⟨zv,z1,z2,z3⟩:=kz (w:=w) hz;have zH:=kh (ρ:=ρ) (w:=w) zv z z2;have Ix:zv.cells.size=m+1/\z.st=true:=by
      have:=iK.1 dK z (by simp);exact⟨by rw [zH.size this.2]; exact this.1,this.2⟩
     have Lp:vl=(nl:Int):=by omega
     have hec:vc=(nc:Int):=by omega
     let cs:Array Value:=(Array.range (nc * (m+1))).map (zv.cells[· % (m+1)]!)
     have qN:cs.toList=(List.replicate nc zv.cells.toList).flatten:=by
      have:=sq zv.cells (by omega) nc;rw [Ix.1]at this;exact this
     have WB:cs.toList=(List.replicate nl zv.cells.toList).flatten++(List.replicate (nc - nl) zv.cells.toList).flatten:=by
      rw [qN,← List.flatten_append,List.replicate_append_replicate]
      congr 2; omega
     obtain⟨ρ',n1,n2,n3⟩:=BI (w' :=w.alloc (.cells cs e)) (cs:=cs) (cp:=nc) hs (kP m) hm (fY.replicate zH Ix.1 Ix.2 nl) WB (by simp [cs]) (by simpa using h1) rfl rfl rfl rfl;have hr:(execOp a.eval o).run P w= .ok (.value (.slice (some ⟨w.heap.size,0,none⟩) nl nc)) (w.alloc (.cells cs e)):=by
      simp only [execOp,ho,e1,e3,Lp,hec];have hti:(typeInfo e).run P w= .ok i w:=by simp [typeInfo,hi]
      have w1:=wrap_small (nl:Int) (by omega) (by omega);have w2:=wrap_small (nc:Int) (by omega) (by omega);have rX: ¬ ((i.bytes:Int) * (nc:Int) > 2 ^ 48):=by
       rw [hb];have:((bytes:Int) * (nc:Int))=((nc * bytes:Nat):Int):=by rw [Int.natCast_mul,Int.mul_comm]
       rw [this]; omega
      have sv: ¬ ((nl:Int) < 0):=by omega
      have zI: ¬ ((nc:Int) < 0):=by omega
      have hlc: ¬ ((nl:Int) > (nc:Int)):=by omega
      have pO: ¬ (nc * i.bytes > roomBytes):=by
       have:roomBytes=2 ^ 47:=rfl;rw [this,hb]; omega
      have Ye : ¬ ((2:Int) ^ 48 < (i.bytes:Int) * (nc:Int)):=rX;have abe:(askRoom (nc * i.bytes)).run P w= .ok () w:=by unfold askRoom; rw [aJ pO]; rfl
      unfold Instr.makeSlice;rw [Sem.run_bind,Sem.run_bind,run_underlying hu];simp only [Result.andThen_ok,asInt,asIntOf,Sem.run_bind,Sem.run_pure,hti,w1,w2];have Zc: ¬ ((281474976710656:Int) < (i.bytes:Int) * (nc:Int)):=Ye;simp [sv,zI,hlc,Zc,abe,fU fR];have hle:nl<=nc:=h1;by_cases h0:nc * (m+1)=0
      ·have FE:nc=0:=by
        rcases Nat.mul_eq_zero.1 h0 with h | h
        ·exact h
        ·omega
       have JO:cs= #[]:=by apply dG; rw [qN,FE]; rfl
       rw [JO];have hE:∀f:Nat->Value,Array.map f (Array.range 0)= #[]:=fun f=>by apply dG; simp
       simp [hle,FE,newRow,newObj,hE];rfl
      ·simp [hle,h0,z1,Ix.1,newRow,newObj];rfl
     rw [hr];simp only [iV]at n3;exact .val n1 n2 n3
    ·cases h
   ·cases h
  ·cases h
 ·cases h
end
end Go.Ab
namespace Go.Ab
open Go
variable [eW]
variable {ρ ρ' :Gh} {w w' :World}{P:Program}{pn:iO}{G:Gl}{X:iJ}{A:nJ} {s s' :St}{env:Env}{a:Act}{lo:Nat}{d:D}{C:au}{al:Option Nat}
theorem pU {z b:Nat}:∀ {l:List D} {y:Nat} {bs:List UInt8},bytesOf l=some bs->(z=1\/l=[])->fX ρ w z b y l->∃ns:List Int,ns.length=l.length/\(∀j n,ns[j]? =some n->w.cell? ⟨b,y+j,none⟩=some (.int .u8 n))/\
  ∀p:List UInt8,ns.foldl (fun (r:ByteArray) n=>r.push (UInt8.ofNat n.toNat)) ⟨⟨p⟩⟩=⟨⟨p++bs⟩⟩
 | [],y,bs,h,_,_=>by
  simp only [bytesOf,aa]at h; subst h;exact⟨[],rfl,fun j n hj=>by simp at hj,fun p=>by simp⟩
 | d::r,y,bs,h,hz,hE=>by
  obtain rfl:z=1:=by rcases hz with h | h; exact h; cases h
  unfold bytesOf at h;split at h
  ·rename_i hh; cases hh
  ·rename_i n r' hh;simp only [ey]at hh;obtain⟨rfl,rfl⟩:=hh;split at h
   ·rename_i bs' hb;simp only [aa]at h; subst h;simp only [fX]at hE;obtain⟨⟨v,h1,h2,h3,h4,h5⟩,h6⟩:=hE;simp only [aS]at h1; subst h1;obtain⟨ns,g1,g2,g3⟩:=pU hb (.inl rfl) h6;refine⟨n::ns,by simp [g1],fun j m hj=> ?_,fun p=> ?_⟩
    ·cases j with
     | zero=>
      simp only [aQ,aa]at hj; subst hj;have:=h4 0 (by simp [Value.cells]);simpa [Value.cells] using this
     | succ j=>
      simp only [bX]at hj;have:=g2 j m hj;rwa [show y+(j+1)=y+1+j by omega]
    ·simp only [nQ];have:(⟨⟨p⟩⟩:ByteArray).push (UInt8.ofNat n.toNat)=⟨⟨p++ [UInt8.ofNat n.toNat]⟩⟩:=by simp [ByteArray.push]
     rw [this,g3]; simp
   ·cases h
  ·cases h
theorem tc {z b:Nat}:∀ {l:List D} {y:Nat} {bs:List UInt8},lX l=some bs->(z=1\/l=[])->fX ρ w z b y l->∃ns:List Int,ns.length=l.length/\(∀j n,ns[j]? =some n->w.cell? ⟨b,y+j,none⟩=some (.int .i32 n))/\
  ∀p:List UInt8,ns.foldl (fun (r:ByteArray) n=>r++Utf8.encode n) ⟨⟨p⟩⟩=⟨⟨p++bs⟩⟩
 | [],y,bs,h,_,_=>by
  simp only [lX,aa]at h; subst h;exact⟨[],rfl,fun j n hj=>by simp at hj,fun p=>by simp⟩
 | d::r,y,bs,h,hz,hE=>by
  obtain rfl:z=1:=by rcases hz with h | h; exact h; cases h
  unfold lX at h;split at h
  ·rename_i hh; cases hh
  ·rename_i n r' hh;simp only [ey]at hh;obtain⟨rfl,rfl⟩:=hh;split at h
   ·rename_i bs' hb;simp only [aa]at h; subst h;simp only [fX]at hE;obtain⟨⟨v,h1,h2,h3,h4,h5⟩,h6⟩:=hE;simp only [aS]at h1; subst h1;obtain⟨ns,g1,g2,g3⟩:=tc hb (.inl rfl) h6;refine⟨n::ns,by simp [g1],fun j m hj=> ?_,fun p=> ?_⟩
    ·cases j with
     | zero=>
      simp only [aQ,aa]at hj; subst hj;have:=h4 0 (by simp [Value.cells]);simpa [Value.cells] using this
     | succ j=>
      simp only [bX]at hj;have:=g2 j m hj;rwa [show y+(j+1)=y+1+j by omega]
    ·simp only [nQ];have:(⟨⟨p⟩⟩:ByteArray)++Utf8.encode n=⟨⟨p++(Utf8.encode n).data.toList⟩⟩:=ByteArray.mk_append_mk p (Utf8.encode n).data.toList;rw [this,g3]; simp
   ·cases h
  ·cases h
section
variable (he:eu ρ w lo env a.tmps)(hg:gF pn G ρ w)(hs:bZ ρ s w)
include he hg hs
omit he hg hs in
theorem Pg {z:Nat}{l:List D}(h:(Nat.beq z 1 || (match l with | []=>true | _=>false))=true):z=1\/l=[]:=by
 simp only [eC]at h;rcases h with h | h
 ·exact .inl (aF h)
 ·cases l with
  | nil=>exact .inr rfl
  | cons _ _=>simp at h
omit he hg hs in
theorem Bk {b y:Nat}{k:IntKind}{ns:List Int}(h:∀j n,ns[j]? =some n->w.cell? ⟨b,y+j,none⟩=some (.int k n)):(loadCells ⟨b,y,none⟩ ns.length).run P w= .ok (ns.map (Value.int k)).toArray w:=by
 have:=run_loadCells_list (P:=P) (w:=w) ⟨b,y,none⟩ (ns.map (Value.int k)) (fun j v hj=>by
  rw [aE,aY]at hj;obtain⟨n,hn,rfl⟩:=hj;rw [Addr.add_mid];exact h j n hn)
 simpa using this
theorem zX {t u e:TypeId} {x' :Operand}{x:bP}(hx:eK G x' =some x)(ht:P.underlying t=some (.slice e))(Yc:P.underlying e=some (.int .u8))(hu:P.underlying u=some .string)(h:cB C env s al (.lK x)=some (d,s')){o:Oper}(ho:o.op= .convert t u x'):
  fb P ρ w env a.tmps d s' ((execOp a.eval o).run P w):=by
 simp only [cB]at h;split at h
 ·rename_i p hp;have hv:=aZ hx he hg hp;split at h
  ·rename_i z l hit;split at h
   ·rename_i bs hz hb;simp only [aa,ab]at h;obtain⟨rfl,rfl⟩:=h;have hz:=Pg hz
    have fin:(∃q n c,a.eval x' = .slice q n c)->(Conv.bytesToString (a.eval x')).run P w= .ok (.string ⟨⟨bs⟩⟩) w->fb P ρ w env a.tmps (.str bs) s ((execOp a.eval o).run P w):=fun ⟨q,n,c,tg⟩ hr=>by
     have fW:(execOp a.eval o).run P w= .ok (.value (.string ⟨⟨bs⟩⟩)) w:=by
      rw [tg]at hr;simp only [execOp,ho,convert,tg];simp [run_underlying ht,run_underlying hu,run_underlying Yc,hr]
     rw [fW]; exact .rep hs (by simp [aS])
    rcases uk hs hit hv with ⟨rfl,q,c,hv⟩ | ⟨b,y,c,hv,hE⟩
    ·refine fin ⟨_,_,_,hv⟩ ?_;simp only [bytesOf,aa]at hb; subst hb;rw [hv];cases q with
     | none=>simp [Conv.bytesToString]; rfl
     | some ad=>
      have:=run_bytesToString (P:=P) w ad 0 c [] (by simp [loadCells,loadCellsFrom]);exact this
    ·refine fin ⟨_,_,_,hv⟩ ?_;obtain⟨ns,g1,g2,g3⟩:=pU hb hz hE;have hl:=Bk (P:=P) g2;rw [g1]at hl;rw [hv,run_bytesToString w _ _ c ns hl];have:=g3 [];simp only [cA]at this;exact congrArg (fun q=>Result.ok (Value.string q) w) this
   ·cases h
  ·cases h
 ·cases h
theorem zU {t u e:TypeId} {x' :Operand}{x:bP}(hx:eK G x' =some x)(ht:P.underlying t=some (.slice e))(Yc:P.underlying e=some (.int .i32))(hu:P.underlying u=some .string)(h:cB C env s al (.kE x)=some (d,s')){o:Oper}(ho:o.op= .convert t u x'):
  fb P ρ w env a.tmps d s' ((execOp a.eval o).run P w):=by
 simp only [cB]at h;split at h
 ·rename_i p hp;have hv:=aZ hx he hg hp;split at h
  ·rename_i z l hit;split at h
   ·rename_i bs hz hb;simp only [aa,ab]at h;obtain⟨rfl,rfl⟩:=h;have hz:=Pg hz
    have fin:(∃q n c,a.eval x' = .slice q n c)->(Conv.runesToString (a.eval x')).run P w= .ok (.string ⟨⟨bs⟩⟩) w->fb P ρ w env a.tmps (.str bs) s ((execOp a.eval o).run P w):=fun ⟨q,n,c,tg⟩ hr=>by
     have fW:(execOp a.eval o).run P w= .ok (.value (.string ⟨⟨bs⟩⟩)) w:=by
      rw [tg]at hr;simp only [execOp,ho,convert,tg];simp [run_underlying ht,run_underlying hu,run_underlying Yc,hr]
     rw [fW]; exact .rep hs (by simp [aS])
    rcases uk hs hit hv with ⟨rfl,q,c,hv⟩ | ⟨b,y,c,hv,hE⟩
    ·refine fin ⟨_,_,_,hv⟩ ?_;simp only [lX,aa]at hb; subst hb;rw [hv];cases q with
     | none=>simp [Conv.runesToString]; rfl
     | some ad=>
      have:=run_runesToString (P:=P) w ad 0 c [] (by simp [loadCells,loadCellsFrom]);exact this
    ·refine fin ⟨_,_,_,hv⟩ ?_;obtain⟨ns,g1,g2,g3⟩:=tc hb hz hE;have hl:=Bk (P:=P) g2;rw [g1]at hl;rw [hv,run_runesToString w _ _ c ns hl];have:=g3 [];simp only [cA]at this;exact congrArg (fun q=>Result.ok (Value.string q) w) this
   ·cases h
  ·cases h
 ·cases h
end
end Go.Ab
