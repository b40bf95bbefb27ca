/- Frame, facts and contracts for QuadReduces. -/
import Derived.Test.YtjbfmocbophmlaaGreatCQuadReducesA
import Derived.Scope
import Derived.Test.YtjbfmocbophmlaaGreatProg
import Derived.Test.YtjbfmocbophmlaaGreatRows
import Derived.ProofKit
import Derived.OpenShut
import Derived.JoinedCond
import Derived.Carry
set_option exponentiation.threshold 600
set_option linter.unusedVariables false
set_option linter.unusedSimpArgs false
set_option maxRecDepth 20000
set_option maxHeartbeats 1000000
namespace Fw
open Go
inductive Pm where
  | fr (p:VP)
  | al (tok tok2:Nat→OB) (s:Nat)
  | st (i:Nat)
def envS (ops:Array Oper) (σ:Nat→Nat) (Γ:List Pm):List Nat→Env
  | []=>[]
  | j::js=>match Γ[j]? with
    | some (.fr p)=>(dstOf ops j,p)::envS ops σ Γ js
    | some (.al _ _ _)=>(dstOf ops j,VP.ex (.pointer (some ⟨σ j,0,none⟩)))::envS ops σ Γ js
    | _=>envS ops σ Γ js
def allEnvS (ops:Array Oper) (σ:Nat→Nat):Nat→List Pm→Env
  | _,[]=>[]
  | i,.fr p::r=>(dstOf ops i,p)::allEnvS ops σ (i+1) r
  | i,.al _ _ _::r=>(dstOf ops i,VP.ex (.pointer (some ⟨σ i,0,none⟩)))::allEnvS ops σ (i+1) r
  | i,.st _::r=>allEnvS ops σ (i+1) r
def allToksS (σ:Nat→Nat):Nat→List Pm→List OB
  | _,[]=>[]
  | i,.al _ tok2 _::r=>tok2 (σ i)::allToksS σ (i+1) r
  | i,.fr _::r=>allToksS σ (i+1) r
  | i,.st _::r=>allToksS σ (i+1) r
def Pm.shape:Pm→Nat×Nat
  | .fr _=>(0,0)
  | .al _ _ s=>(1,s)
  | .st i=>(2,i)
def tokAt (σ:Nat→Nat) (Γ:List Pm) (listed:Array Bool) (i:Nat):Option OB:=
  if listed.getD i false then (match Γ[i]? with | some (.al tok tok2 s)=>some (if listed.getD s false then tok2 (σ i) else tok (σ i)) | _=>none) else none
section
variable {C:Ctx} {Q:Exit→Act→World→Prop} {ρ:Env} {L0:List OB} {ops:Array Oper}
def ObS (C:Ctx) (ops:Array Oper) (Q:Exit→Act→World→Prop) (ρ:Env) (L0:List OB) (Γ:List Pm) (i:Nat):Pm→Prop
  | .fr p=>∀σ N m w a,Sat C m w (N++L0)→Has C.N m a (envS ops σ Γ (deps ops i)++ρ)→∀K:Act→World→Prop,(∀m' w' v,Mem.le m m'→Sat C m' w' (N++L0)→p.p m' v→K (a.put (some (dstOf ops i)) v) w')→wpOp C.P ops Q i K a w
  | .al tok _ _=>∀σ N m w a,Sat C m w (N++L0)→Has C.N m a (envS ops σ Γ (deps ops i)++ρ)→∀K:Act→World→Prop,(∀m' w' b,Mem.le m m'→Sat C m' w' (tok b::(N++L0))→K (a.put (some (dstOf ops i)) (.pointer (some ⟨b,0,none⟩))) w')→wpOp C.P ops Q i K a w
  | .st j=>∀tok tok2 s,Γ[j]?=some (.al tok tok2 s)→∀σ N m w a,Sat C m w (tok (σ j)::(N++L0))→Has C.N m a (envS ops σ Γ (deps ops i)++ρ)→∀K:Act→World→Prop,(∀m' w',Mem.le m m'→Sat C m' w' (tok2 (σ j)::(N++L0))→K a w')→wpOp C.P ops Q i K a w
structure FarS (C:Ctx) (ops:Array Oper) (ρ:Env) (L0:List OB) (Γ:List Pm) (listed:Array Bool) (m:Mem) (σ:Nat→Nat) (a:Act) (w:World):Prop where
  sat:Sat C m w ((List.range Γ.length).filterMap (tokAt σ Γ listed)++L0)
  defers:a.defers=[]
  size:a.tmps.size=C.N
  old:∀t p,ρ.get t=some p→p.p m (a.tmps.getD t undef)
  new:∀i,listed.getD i false=true→(∀p,Γ[i]?=some (.fr p)→p.p m (a.tmps.getD (dstOf ops i) undef))∧(∀tok tok2 s,Γ[i]?=some (.al tok tok2 s)→a.tmps.getD (dstOf ops i) undef = .pointer (some ⟨σ i,0,none⟩))
  closed:∀i,listed.getD i false=true→∀j∈deps ops i,listed.getD j false=true
  len:listed.size=ops.size
structure ChkS (N:Nat) (ops:Array Oper) (ρ:Env) (Γ:List Pm):Prop where
  le:Γ.length=ops.size
  dst:∀i,i<Γ.length→(∀j,Γ[i]?≠some (Pm.st j))→dstOf ops i<N∧ρ.get (dstOf ops i)=none
  inj:∀i j,i<Γ.length→j<Γ.length→(∀k,Γ[i]?≠some (Pm.st k))→(∀k,Γ[j]?≠some (Pm.st k))→dstOf ops i=dstOf ops j→i=j
  lt:∀i,i<ops.size→∀j∈deps ops i,j<i
  sto:∀(s i:Nat),Γ[s]?=some (Pm.st i)→(∃tok tok2,Γ[i]?=some (Pm.al tok tok2 s))∧i∈deps ops s
  alo:∀(i:Nat) (tok tok2:Nat→OB) (s:Nat),Γ[i]?=some (Pm.al tok tok2 s)→Γ[s]?=some (Pm.st i)
theorem envS_get {σ:Nat→Nat} {Γ:List Pm}:∀{js:List Nat} {t:Nat} {p:VP},(envS ops σ Γ js).get t=some p→∃j∈js,dstOf ops j=t∧(Γ[j]?=some (.fr p)∨((∃tok tok2 s,Γ[j]?=some (.al tok tok2 s))∧p=VP.ex (.pointer (some ⟨σ j,0,none⟩))))
  | [],t,p,h=>by cases h
  | j::js,t,p,h=>by
    have hrec:(envS ops σ Γ js).get t=some p→∃i∈j::js,dstOf ops i=t∧(Γ[i]?=some (.fr p)∨((∃tok tok2 s,Γ[i]?=some (.al tok tok2 s))∧p=VP.ex (.pointer (some ⟨σ i,0,none⟩)))):=fun h=>by
      obtain ⟨i,h1,h2⟩:=envS_get h
      exact ⟨i,List.mem_cons_of_mem _ h1,h2⟩
    have hcons:∀q,(Γ[j]?=some (.fr q)∨((∃tok tok2 s,Γ[j]?=some (.al tok tok2 s))∧q=VP.ex (.pointer (some ⟨σ j,0,none⟩))))→Env.get ((dstOf ops j,q)::envS ops σ Γ js) t=some p→∃i∈j::js,dstOf ops i=t∧(Γ[i]?=some (.fr p)∨((∃tok tok2 s,Γ[i]?=some (.al tok tok2 s))∧p=VP.ex (.pointer (some ⟨σ i,0,none⟩)))):=fun q hq h=>by
      simp only [Env.get] at h
      cases hb:Nat.beq (dstOf ops j) t with
      | true=>
        have:=Nat.eq_of_beq_eq_true hb
        simp only [hb,cond_true,Option.some.injEq] at h
        subst h
        exact ⟨j,by simp,this,hq⟩
      | false=>simp only [hb,cond_false] at h;exact hrec h
    simp only [envS] at h
    cases hg:Γ[j]? with
    | none=>simp only [hg] at h;exact hrec h
    | some x=>
      cases x with
      | fr q=>simp only [hg] at h;exact hcons q (.inl hg) h
      | al tok tok2 s=>simp only [hg] at h;exact hcons _ (.inr ⟨⟨tok,tok2,s,hg⟩,rfl⟩) h
      | st i=>simp only [hg] at h;exact hrec h
theorem FarS.has {Γ:List Pm} {listed:Array Bool} {m:Mem} {σ:Nat→Nat} {a:Act} {w:World} (f:FarS C ops ρ L0 Γ listed m σ a w) {js:List Nat} (hj:∀j∈js,listed.getD j false=true):Has C.N m a (envS ops σ Γ js++ρ):=by
  refine ⟨f.defers,f.size,fun t p h=>?_⟩
  rw [Env.get_append] at h
  cases h1:(envS ops σ Γ js).get t with
  | some q=>
    rw [h1] at h
    simp only [Option.some_or,Option.some.injEq] at h
    subst h
    obtain ⟨j,h2,h3,h4⟩:=envS_get h1
    rw [←h3]
    rcases h4 with h4 | ⟨⟨tok,tok2,s,h4⟩,rfl⟩
    · exact (f.new j (hj j h2)).1 _ h4
    · exact (f.new j (hj j h2)).2 _ _ _ h4
  | none=>rw [h1] at h;exact f.old t p (by simpa using h)
theorem tokAt_ne {σ σ':Nat→Nat} {Γ:List Pm} {listed:Array Bool} {i k:Nat} (h1:k≠i) (hs:∀tok tok2 s,Γ[k]?=some (.al tok tok2 s)→s≠i) (hσ:σ' k=σ k):tokAt σ' Γ (listed.setIfInBounds i true) k=tokAt σ Γ listed k:=by
  unfold tokAt
  rw [Go.getD_set_ne false (Ne.symm h1)]
  split
  · cases hg:Γ[k]? with
    | none=>rfl
    | some x=>
      cases x with
      | fr p=>rfl
      | st j=>rfl
      | al tok tok2 s=>
        have:=hs tok tok2 s hg
        simp only [Go.getD_set_ne false (Ne.symm this),hσ]
  · rfl
theorem fm_turn {n i:Nat} {f g:Nat→Option OB} (hi:i<n) (h:∀k,k≠i→k<n→g k=f k):∃R,((List.range n).filterMap f).Perm ((f i).toList++R)∧((List.range n).filterMap g).Perm ((g i).toList++R):=by
  have hsplit:List.range n=List.range i++i::(List.range' (i+1) (n-i-1)):=by
    rw [List.range_eq_range',List.range_eq_range',show n=i+(1+(n-i-1)) from by omega,←List.range'_append,←List.range'_append]
    simp
  have h1:(List.range i).filterMap g=(List.range i).filterMap f:=fm_congr fun k hk=>h k (by have:=List.mem_range.1 hk;omega) (by have:=List.mem_range.1 hk;omega)
  have h2:(List.range' (i+1) (n-i-1)).filterMap g=(List.range' (i+1) (n-i-1)).filterMap f:=fm_congr fun k hk=>h k (by have:=List.mem_range'_1.1 hk;omega) (by have:=List.mem_range'_1.1 hk;omega)
  have key:∀x:Option OB,∀a b:List OB,(a++(x.toList++b)).Perm (x.toList++(a++b)):=fun x a b=>by
    cases x with
    | none=>exact List.Perm.refl _
    | some y=>exact List.perm_middle
  refine ⟨(List.range i).filterMap f++(List.range' (i+1) (n-i-1)).filterMap f,?_,?_⟩
  · rw [hsplit,List.filterMap_append]
    have:(i::List.range' (i+1) (n-i-1)).filterMap f=(f i).toList++(List.range' (i+1) (n-i-1)).filterMap f:=by
      rw [List.filterMap_cons];cases f i <;> rfl
    rw [this];exact key _ _ _
  · rw [hsplit,List.filterMap_append]
    have:(i::List.range' (i+1) (n-i-1)).filterMap g=(g i).toList++(List.range' (i+1) (n-i-1)).filterMap g:=by
      rw [List.filterMap_cons];cases g i <;> rfl
    rw [this,h1,h2];exact key _ _ _
theorem getD_set_eq {listed:Array Bool} {i:Nat} (h:i<listed.size):(listed.setIfInBounds i true).getD i false=true:=by
  simp [Array.getD_eq_getD_getElem?,Array.getElem?_setIfInBounds,h]
theorem not_listed {listed:Array Bool} {i:Nat} (h:i<listed.size) (hn:listed.getD i true=false):listed.getD i false=false:=by
  simp [Array.getD_eq_getD_getElem?,Array.getElem?_eq_getElem h] at hn ⊢;exact hn
theorem closed_set {listed:Array Bool} {i:Nat} (hc:∀i,listed.getD i false=true→∀j∈deps ops i,listed.getD j false=true) (hdep:∀j∈deps ops i,listed.getD j false=true):∀k,(listed.setIfInBounds i true).getD k false=true→∀j∈deps ops k,(listed.setIfInBounds i true).getD j false=true:=by
  intro k hk l hl
  by_cases hji:i=k
  · subst hji;exact getD_set_true (hdep l hl)
  · rw [Go.getD_set_ne false hji] at hk
    exact getD_set_true (hc k hk l hl)
theorem FarS.fr {Γ:List Pm} (ck:ChkS C.N ops ρ Γ) {listed:Array Bool} {m m':Mem} {σ:Nat→Nat} {a:Act} {w w':World} (f:FarS C ops ρ L0 Γ listed m σ a w) {i:Nat} (hi:i<Γ.length) (hn:listed.getD i true=false) (hdep:∀j∈deps ops i,listed.getD j false=true) {p:VP} (hp:Γ[i]?=some (.fr p)) {v:Value} (hm:Mem.le m m')
    (s:Sat C m' w' ((List.range Γ.length).filterMap (tokAt σ Γ listed)++L0)) (hv:p.p m' v):FarS C ops ρ L0 Γ (listed.setIfInBounds i true) m' σ (a.put (some (dstOf ops i)) v) w':=by
  obtain ⟨hdN,hρ⟩:=ck.dst i hi (fun j h=>by rw [hp] at h;cases h)
  have hput:=fun t=>putD (a:=a) (d:=dstOf ops i) (t:=t) (v:=v) f.size hdN
  refine ⟨?_,f.defers,by simp [Act.put,f.size],fun t q hq=>?_,fun j hj=>?_,closed_set f.closed hdep,by simpa using f.len⟩
  · have heq:(List.range Γ.length).filterMap (tokAt σ Γ (listed.setIfInBounds i true))=(List.range Γ.length).filterMap (tokAt σ Γ listed):=by
      apply fm_congr
      intro k _
      by_cases hki:k=i
      · subst hki;unfold tokAt;simp [hp]
      · refine tokAt_ne hki (fun tok tok2 s hk e=>?_) rfl
        subst e
        have:=ck.alo k tok tok2 s hk
        rw [hp] at this;cases this
    rw [heq];exact s
  · rw [hput,if_neg (fun h=>by subst h;rw [hρ] at hq;cases hq)]
    exact q.mono hm (f.old t q hq)
  · by_cases hji:i=j
    · subst hji
      refine ⟨fun q hq=>?_,fun tok tok2 s ht=>by rw [hp] at ht;cases ht⟩
      rw [hput,if_pos rfl]
      rw [hp] at hq;cases hq;exact hv
    · rw [Go.getD_set_ne false hji] at hj
      obtain ⟨h2,h3⟩:=f.new j hj
      have hjl:j<Γ.length:=by
        rcases Nat.lt_or_ge j Γ.length with h | h
        · exact h
        · have:listed.size≤j:=by rw [f.len,←ck.le];exact h
          simp [Array.getD_eq_getD_getElem?,Array.getElem?_eq_none this] at hj
      refine ⟨fun q hq=>?_,fun tok tok2 s ht=>?_⟩
      · have hne:dstOf ops i≠dstOf ops j:=fun h=>hji (ck.inj i j hi hjl (fun k h=>by rw [hp] at h;cases h) (fun k h=>by rw [hq] at h;cases h) h)
        rw [hput,if_neg hne];exact q.mono hm (h2 q hq)
      · have hne:dstOf ops i≠dstOf ops j:=fun h=>hji (ck.inj i j hi hjl (fun k h=>by rw [hp] at h;cases h) (fun k h=>by rw [ht] at h;cases h) h)
        rw [hput,if_neg hne];exact h3 tok tok2 s ht
theorem FarS.al {Γ:List Pm} (ck:ChkS C.N ops ρ Γ) {listed:Array Bool} {m m':Mem} {σ:Nat→Nat} {a:Act} {w w':World} (f:FarS C ops ρ L0 Γ listed m σ a w) {i:Nat} (hi:i<Γ.length) (hn:listed.getD i true=false) (hdep:∀j∈deps ops i,listed.getD j false=true) {tok tok2:Nat→OB} {s0:Nat} (hp:Γ[i]?=some (.al tok tok2 s0)) {b:Nat} (hm:Mem.le m m')
    (s:Sat C m' w' (tok b::((List.range Γ.length).filterMap (tokAt σ Γ listed)++L0))):FarS C ops ρ L0 Γ (listed.setIfInBounds i true) m' (fun j=>if j=i then b else σ j) (a.put (some (dstOf ops i)) (.pointer (some ⟨b,0,none⟩))) w':=by
  obtain ⟨hdN,hρ⟩:=ck.dst i hi (fun j h=>by rw [hp] at h;cases h)
  have his:i<listed.size:=by rw [f.len,←ck.le];exact hi
  have hnf:=not_listed his hn
  have hput:=fun t=>putD (a:=a) (d:=dstOf ops i) (t:=t) (v:=.pointer (some ⟨b,0,none⟩)) f.size hdN
  have hsto:=ck.sto s0 i (ck.alo i tok tok2 s0 hp)
  have hs0:listed.getD s0 false=false:=by
    cases hb:listed.getD s0 false with
    | false=>rfl
    | true=>have:=f.closed s0 hb i hsto.2;rw [hnf] at this;cases this
  have hsi:s0≠i:=fun e=>by
    subst e
    have:=ck.alo s0 tok tok2 s0 hp
    rw [hp] at this;cases this
  refine ⟨?_,f.defers,by simp [Act.put,f.size],fun t q hq=>?_,fun j hj=>?_,closed_set f.closed hdep,by simpa using f.len⟩
  · obtain ⟨R,r1,r2⟩:=fm_turn (f:=tokAt σ Γ listed) (g:=tokAt (fun j=>if j=i then b else σ j) Γ (listed.setIfInBounds i true)) hi (fun k hk _=>tokAt_ne hk (fun tok' tok2' s hk' e=>by
      subst e
      have:=ck.alo k tok' tok2' s hk'
      rw [hp] at this;cases this) (by simp [hk]))
    have e1:tokAt σ Γ listed i=none:=by unfold tokAt;simp [hnf]
    have e2:tokAt (fun j=>if j=i then b else σ j) Γ (listed.setIfInBounds i true) i=some (tok b):=by
      unfold tokAt
      simp [getD_set_eq his,hp,Go.getD_set_ne false (Ne.symm hsi),hs0]
    rw [e1] at r1
    rw [e2] at r2
    refine s.perm ?_
    refine (r2.append_right L0).trans ?_
    rw [←List.cons_append]
    exact List.Perm.append_right L0 (List.Perm.cons _ (by simpa using r1.symm))
  · rw [hput,if_neg (fun h=>by subst h;rw [hρ] at hq;cases hq)]
    exact q.mono hm (f.old t q hq)
  · by_cases hji:i=j
    · subst hji
      refine ⟨fun q hq=>(by rw [hp] at hq;cases hq),fun tok' tok2' s ht=>?_⟩
      rw [hput,if_pos rfl];simp
    · rw [Go.getD_set_ne false hji] at hj
      obtain ⟨h2,h3⟩:=f.new j hj
      have hjl:j<Γ.length:=by
        rcases Nat.lt_or_ge j Γ.length with h | h
        · exact h
        · have:listed.size≤j:=by rw [f.len,←ck.le];exact h
          simp [Array.getD_eq_getD_getElem?,Array.getElem?_eq_none this] at hj
      refine ⟨fun q hq=>?_,fun tok' tok2' s ht=>?_⟩
      · have hne:dstOf ops i≠dstOf ops j:=fun h=>hji (ck.inj i j hi hjl (fun k h=>by rw [hp] at h;cases h) (fun k h=>by rw [hq] at h;cases h) h)
        rw [hput,if_neg hne];exact q.mono hm (h2 q hq)
      · have hne:dstOf ops i≠dstOf ops j:=fun h=>hji (ck.inj i j hi hjl (fun k h=>by rw [hp] at h;cases h) (fun k h=>by rw [ht] at h;cases h) h)
        rw [hput,if_neg hne,if_neg (fun e=>hji e.symm)];exact h3 tok' tok2' s ht
theorem FarS.st {Γ:List Pm} (ck:ChkS C.N ops ρ Γ) {listed:Array Bool} {m m':Mem} {σ:Nat→Nat} {a:Act} {w w':World} (f:FarS C ops ρ L0 Γ listed m σ a w) {i j:Nat} (hi:i<Γ.length) (hn:listed.getD i true=false) (hdep:∀j∈deps ops i,listed.getD j false=true) (hp:Γ[i]?=some (.st j)) {tok tok2:Nat→OB} (ha:Γ[j]?=some (.al tok tok2 i)) (hm:Mem.le m m') {R:List OB}
    (hR:((List.range Γ.length).filterMap (tokAt σ Γ (listed.setIfInBounds i true))).Perm (tok2 (σ j)::R)) (s:Sat C m' w' (tok2 (σ j)::(R++L0))):FarS C ops ρ L0 Γ (listed.setIfInBounds i true) m' σ a w':=by
  refine ⟨?_,f.defers,f.size,fun t q hq=>q.mono hm (f.old t q hq),fun k hk=>?_,closed_set f.closed hdep,by simpa using f.len⟩
  · refine s.perm ?_
    rw [←List.cons_append]
    exact hR.append_right L0
  · by_cases hki:i=k
    · subst hki
      exact ⟨fun q hq=>(by rw [hp] at hq;cases hq),fun tok' tok2' s ht=>(by rw [hp] at ht;cases ht)⟩
    · rw [Go.getD_set_ne false hki] at hk
      obtain ⟨h2,h3⟩:=f.new k hk
      exact ⟨fun q hq=>q.mono hm (h2 q hq),h3⟩
theorem allEnvS_get {σ:Nat→Nat}:∀(Γ:List Pm) (i t:Nat) (p:VP),(allEnvS ops σ i Γ).get t=some p→∃j,i≤j∧j<i+Γ.length∧dstOf ops j=t∧(Γ[j-i]?=some (.fr p)∨(∃tok tok2 s,Γ[j-i]?=some (.al tok tok2 s))∧p=VP.ex (.pointer (some ⟨σ j,0,none⟩)))
  | [],i,t,p,h=>by cases h
  | x::Γ,i,t,p,h=>by
    have hrec:(allEnvS ops σ (i+1) Γ).get t=some p→∃j,i≤j∧j<i+(x::Γ).length∧dstOf ops j=t∧((x::Γ)[j-i]?=some (.fr p)∨(∃tok tok2 s,(x::Γ)[j-i]?=some (.al tok tok2 s))∧p=VP.ex (.pointer (some ⟨σ j,0,none⟩))):=fun h=>by
      obtain ⟨j,h1,h2,h3,h4⟩:=allEnvS_get Γ (i+1) t p h
      refine ⟨j,by omega,by simp;omega,h3,?_⟩
      rw [show j-i=j-(i+1)+1 from by omega]
      simpa using h4
    have hcons:∀q,(x = .fr q∨(∃tok tok2 s,x = .al tok tok2 s)∧q=VP.ex (.pointer (some ⟨σ i,0,none⟩)))→Env.get ((dstOf ops i,q)::allEnvS ops σ (i+1) Γ) t=some p→∃j,i≤j∧j<i+(x::Γ).length∧dstOf ops j=t∧((x::Γ)[j-i]?=some (.fr p)∨(∃tok tok2 s,(x::Γ)[j-i]?=some (.al tok tok2 s))∧p=VP.ex (.pointer (some ⟨σ j,0,none⟩))):=fun q hq h=>by
      simp only [Env.get] at h
      cases hb:Nat.beq (dstOf ops i) t with
      | true=>
        have:=Nat.eq_of_beq_eq_true hb
        simp only [hb,cond_true,Option.some.injEq] at h
        subst h
        refine ⟨i,Nat.le_refl _,by simp,this,?_⟩
        simpa using hq
      | false=>simp only [hb,cond_false] at h;exact hrec h
    cases x with
    | fr q=>exact hcons q (.inl rfl) h
    | al tok tok2 s=>exact hcons _ (.inr ⟨⟨tok,tok2,s,rfl⟩,rfl⟩) h
    | st j=>exact hrec h
theorem allToksS_eq (σ:Nat→Nat):∀(Γ:List Pm) (i:Nat),allToksS σ i Γ=((List.range Γ.length).filterMap fun j=>match Γ[j]? with | some (Pm.al _ tok2 _)=>some (tok2 (σ (i+j))) | _=>none)
  | [],i=>rfl
  | x::Γ,i=>by
    have ih:=allToksS_eq σ Γ (i+1)
    rw [List.length_cons,List.range_succ_eq_map,List.filterMap_cons,List.filterMap_map]
    have:(List.range Γ.length).filterMap ((fun j=>match (x::Γ)[j]? with | some (Pm.al _ tok2 _)=>some (tok2 (σ (i+j))) | _=>none)∘Nat.succ)=allToksS σ (i+1) Γ:=by
      rw [ih]
      apply fm_congr
      intro j _
      simp only [Function.comp,Nat.succ_eq_add_one,List.getElem?_cons_succ,show i+(j+1)=i+1+j from by omega]
    rw [this]
    cases x <;> simp [allToksS]
theorem CW.drawS {id:Nat} {Γ:List Pm} (hm:C.P.follows .mixedOrders=true) (ck:ChkS C.N ops ρ Γ)
    (ob:∀i x,Γ[i]?=some x→ObS C ops Q ρ L0 Γ i x)
    (h:∀σ,QE C Q .normal (allEnvS ops σ 0 Γ++ρ) (allToksS σ 0 Γ++L0)):CW C Q (.region id ops true) ρ L0:=by
  have key:∀(fuel:Nat) (listed:Array Bool) (m:Mem) (σ:Nat→Nat) (a:Act) (w:World),FarS C ops ρ L0 Γ listed m σ a w→cnt ops listed+fuel=ops.size→wpAny C.P .any ops Q fuel listed a w:=by
    intro fuel
    induction fuel with
    | zero=>
      intro listed m σ a w f hc
      have hall:∀i,i<ops.size→listed.getD i false=true:=fun i hi=>cnt_full f.len (by omega) i hi
      refine ⟨?_,h σ m w a ?_ ?_⟩
      · rw [List.eq_nil_iff_forall_not_mem]
        intro j hj
        obtain ⟨h5,o,h6,_⟩:=mem_ready.1 hj
        have hj':j<ops.size:=(Array.getElem?_eq_some_iff.1 h6).1
        have h7:=hall j hj'
        have h8:j<listed.size:=by rw [f.len];exact hj'
        simp [Array.getD_eq_getD_getElem?,Array.getElem?_eq_getElem h8] at h5 h7
        rw [h7] at h5;cases h5
      · have:(List.range Γ.length).filterMap (tokAt σ Γ listed)=allToksS σ 0 Γ:=by
          rw [allToksS_eq]
          apply fm_congr
          intro i hi
          have hi':=List.mem_range.1 hi
          unfold tokAt
          rw [hall i (by rw [←ck.le];exact hi')]
          cases hg:Γ[i]? with
          | none=>rfl
          | some x=>
            cases x with
            | fr p=>rfl
            | st j=>rfl
            | al tok tok2 s=>
              have h1:=ck.alo i tok tok2 s hg
              have h2:s<Γ.length:=(List.getElem?_eq_some_iff.1 h1).1
              simp [hall s (by rw [←ck.le];exact h2)]
        rw [←this];exact f.sat
      · refine ⟨f.defers,f.size,fun t p hp=>?_⟩
        rw [Env.get_append] at hp
        cases h1:(allEnvS ops σ 0 Γ).get t with
        | some q=>
          rw [h1] at hp
          simp only [Option.some_or,Option.some.injEq] at hp
          subst hp
          obtain ⟨j,h2,h3,h4,h5⟩:=allEnvS_get Γ 0 t q h1
          simp only [Nat.sub_zero] at h5
          obtain ⟨g2,g3⟩:=f.new j (hall j (by have:=ck.le;omega))
          rw [←h4]
          rcases h5 with h5 | ⟨⟨tok,tok2,s,h5⟩,rfl⟩
          · exact g2 _ h5
          · exact g3 tok tok2 s h5
        | none=>rw [h1] at hp;exact f.old t p (by simpa using hp)
    | succ fuel ih=>
      intro listed m σ a w f hc
      refine ⟨fun h0=>?_,fun j hj=>?_⟩
      · exfalso
        have hnall:¬∀i,i<ops.size→listed.getD i false=true:=fun hall=>by
          have:cnt ops listed=ops.size:=by
            unfold cnt
            rw [List.filter_eq_self.2 (fun i hi=>hall i (List.mem_range.1 hi))];simp
          omega
        obtain ⟨i,hi,hin,hmin⟩:=least_not hnall
        have hil:i<listed.size:=by rw [f.len];exact hi
        have hun:listed.getD i true=false:=by
          simp [Array.getD_eq_getD_getElem?,Array.getElem?_eq_getElem hil] at hin ⊢;exact hin
        have:=ready_deps hi hun (fun j hj=>by
          have:=ck.lt i hi j hj
          exact hmin j this (by omega))
        rw [h0] at this;cases this
      · obtain ⟨hjn,o,ho,hall'⟩:=mem_ready.1 hj
        have hdep:=deps_ready ho hall'
        have hjs:j<ops.size:=(Array.getElem?_eq_some_iff.1 ho).1
        have hjl:j<Γ.length:=by rw [ck.le];exact hjs
        have hx:Γ[j]?=some Γ[j]:=by simp [hjl]
        cases hg:Γ[j] with
        | fr p=>
          rw [hg] at hx
          exact ob j _ hx σ _ m w a f.sat (f.has hdep) _ (fun m' w' v hm s hp=>ih _ m' σ _ w' (f.fr ck hjl hjn hdep hx hm s hp) (by rw [cnt_set f.len hjs hjn];omega))
        | al tok tok2 s0=>
          rw [hg] at hx
          exact ob j _ hx σ _ m w a f.sat (f.has hdep) _ (fun m' w' b hm s=>ih _ m' _ _ w' (f.al ck hjl hjn hdep hx hm s) (by rw [cnt_set f.len hjs hjn];omega))
        | st i=>
          rw [hg] at hx
          obtain ⟨⟨tok,tok2,ha⟩,hid⟩:=ck.sto j i hx
          have hil:i<Γ.length:=(List.getElem?_eq_some_iff.1 ha).1
          have hij:i≠j:=fun e=>by subst e;rw [ha] at hx;cases hx
          have hli:=hdep i hid
          have hjsz:j<listed.size:=by rw [f.len];exact hjs
          have hnf:=not_listed hjsz hjn
          obtain ⟨R,r1,r2⟩:=fm_turn (f:=tokAt σ Γ listed) (g:=tokAt σ Γ (listed.setIfInBounds j true)) hil (fun k hk _=>by
            by_cases hkj:k=j
            · subst hkj;unfold tokAt;simp [hx]
            · exact tokAt_ne hkj (fun tok' tok2' s hk' e=>by
                subst e
                have:=ck.alo k tok' tok2' s hk'
                rw [hx] at this;cases this;exact hk rfl) rfl)
          have e1:tokAt σ Γ listed i=some (tok (σ i)):=by unfold tokAt;simp [hli,ha,hnf]
          have e2:tokAt σ Γ (listed.setIfInBounds j true) i=some (tok2 (σ i)):=by
            unfold tokAt
            rw [Go.getD_set_ne false (Ne.symm hij),hli]
            simp [ha,getD_set_eq hjsz]
          rw [e1] at r1
          rw [e2] at r2
          have s1:Sat C m w (tok (σ i)::(R++L0)):=f.sat.perm (by
            rw [←List.cons_append]
            exact List.Perm.append_right L0 (by simpa using r1.symm))
          exact ob j _ hx tok tok2 j ha σ R m w a s1 (f.has hdep) _ (fun m' w' hm s=>ih _ m' σ _ w' (f.st ck hjl hjn hdep hx ha hm (by simpa using r2) s) (by rw [cnt_set f.len hjs hjn];omega))
  intro m w a s t
  refine wp_region_any hm (key ops.size _ m (fun _=>0) a _ ⟨?_,t.defers,t.size,t.get,fun i hi=>?_,fun i hi=>?_,by simp⟩ ?_)
  · have:(List.range Γ.length).filterMap (tokAt (fun _=>0) Γ (Array.replicate ops.size false))=([]:List OB):=by
      rw [List.filterMap_eq_nil_iff]
      intro i hi
      have h0:(Array.replicate ops.size false).getD i false=false:=by
        simp [Array.getD_eq_getD_getElem?,Array.getElem?_replicate];split <;> rfl
      unfold tokAt
      simp [h0]
    rw [this,List.nil_append]
    exact s.lift (Mem.le_refl m) s.fits ⟨rfl,rfl,rfl,Nat.le_refl _,fun _ _ _=>rfl⟩ (fun _ _ h=>h)
  · simp [Array.getD_eq_getD_getElem?,Array.getElem?_replicate] at hi
    split at hi <;> simp at hi
  · simp [Array.getD_eq_getD_getElem?,Array.getElem?_replicate] at hi
    split at hi <;> simp at hi
  · have:cnt ops (Array.replicate ops.size false)=0:=by
      unfold cnt
      rw [List.length_eq_zero_iff,List.filter_eq_nil_iff]
      intro i hi
      simp [Array.getD_eq_getD_getElem?,Array.getElem?_replicate]
      split <;> simp
    omega
def dstB (N:Nat) (ops:Array Oper) (i:Nat):Bool:=match ops[i]? with
  | some o=>o.dst.isSome&&Nat.blt (dstOf ops i) N
  | none=>false
def chkSB (N:Nat) (ops:Array Oper) (sh:List (Nat×Nat)):Bool:=
  Nat.beq sh.length ops.size &&
  (List.range sh.length).all (fun i=>match sh.getD i (9,9) with
    | (2,j)=>(match sh.getD j (9,9) with | (1,s)=>Nat.beq s i | _=>false)&&(deps ops i).contains j
    | (1,s)=>(match sh.getD s (9,9) with | (2,j)=>Nat.beq j i | _=>false)&&dstB N ops i
    | (0,_)=>dstB N ops i
    | _=>false) &&
  (List.range sh.length).all (fun i=>(List.range sh.length).all fun j=>Nat.beq i j||Nat.beq (sh.getD i (9,9)).1 2||Nat.beq (sh.getD j (9,9)).1 2 || !Nat.beq (dstOf ops i) (dstOf ops j)) &&
  (List.range ops.size).all (fun i=>(deps ops i).all fun j=>Nat.blt j i)
theorem shape_get {Γ:List Pm} {sh:List (Nat×Nat)} (h:Γ.map Pm.shape=sh) {i:Nat} {x:Pm} (hx:Γ[i]?=some x):sh.getD i (9,9)=x.shape:=by
  subst h;simp [List.getD_eq_getElem?_getD,hx]
theorem ChkS.of {N:Nat} {Γ:List Pm} {sh:List (Nat×Nat)} (hl:Γ.map Pm.shape=sh) (h:chkSB N ops sh=true) (hρ:(List.range Γ.length).all (fun i=>Nat.beq (sh.getD i (9,9)).1 2||(ρ.get (dstOf ops i)).isNone)=true):ChkS N ops ρ Γ:=by
  simp only [chkSB,Bool.and_eq_true,List.all_eq_true,List.mem_range,Nat.blt_eq,Bool.or_eq_true,Bool.not_eq_true',Nat.beq_eq] at h
  obtain ⟨⟨⟨h1,h2⟩,h3⟩,h4⟩:=h
  have hlen:sh.length=Γ.length:=by rw [←hl];simp
  simp only [List.all_eq_true,List.mem_range,Bool.or_eq_true,Nat.beq_eq] at hρ
  have hnot:∀i,i<Γ.length→(∀j,Γ[i]?≠some (Pm.st j))→(sh.getD i (9,9)).1≠2:=fun i hi hne=>by
    have hx:Γ[i]?=some Γ[i]:=by simp [hi]
    rw [shape_get hl hx]
    cases hg:Γ[i] with
    | fr p=>simp [Pm.shape]
    | al a b c=>simp [Pm.shape]
    | st j=>rw [hg] at hx;exact absurd hx (hne j)
  refine ⟨by omega,fun i hi hne=>?_,fun i j hi hj hni hnj hd=>?_,fun i hi j hj=>h4 i hi j hj,fun s i hs=>?_,fun i tok tok2 s hi=>?_⟩
  · have hn2:=hnot i hi hne
    have hr:=(hρ i hi).resolve_left hn2
    have h5:=h2 i (by omega)
    have hx:Γ[i]?=some Γ[i]:=by simp [hi]
    rw [shape_get hl hx] at h5
    have hd:dstB N ops i=true:=by
      cases hg:Γ[i] with
      | fr p=>rw [hg] at h5;exact h5
      | al a b c=>rw [hg] at h5;simp only [Pm.shape,Bool.and_eq_true] at h5;exact h5.2
      | st j=>rw [hg] at hx;exact absurd hx (hne j)
    unfold dstB at hd
    cases ho:ops[i]? with
    | none=>simp [ho] at hd
    | some o=>simp only [ho,Bool.and_eq_true,Nat.blt_eq] at hd;exact ⟨hd.2,by simpa using hr⟩
  · rcases h3 i (by omega) j (by omega) with h5 | h5
    · rcases h5 with h5 | h5
      · rcases h5 with h5 | h5
        · exact h5
        · exact absurd h5 (hnot i hi hni)
      · exact absurd h5 (hnot j hj hnj)
    · rw [hd] at h5;simp at h5
  · have hsl:s<Γ.length:=(List.getElem?_eq_some_iff.1 hs).1
    have h5:=h2 s (by omega)
    rw [shape_get hl hs] at h5
    simp only [Pm.shape,Bool.and_eq_true,List.contains_iff_mem] at h5
    refine ⟨?_,h5.2⟩
    have h6:=h5.1
    cases hg:Γ[i]? with
    | none=>
      have:sh.getD i (9,9)=(9,9):=by rw [←hl];simp [List.getD_eq_getElem?_getD,hg]
      rw [this] at h6;simp at h6
    | some x=>
      rw [shape_get hl hg] at h6
      cases x with
      | fr p=>simp [Pm.shape] at h6
      | al a b c=>simp only [Pm.shape,Nat.beq_eq] at h6;exact ⟨a,b,by rw [h6]⟩
      | st j=>simp [Pm.shape] at h6
  · have hil:i<Γ.length:=(List.getElem?_eq_some_iff.1 hi).1
    have h5:=h2 i (by omega)
    rw [shape_get hl hi] at h5
    simp only [Pm.shape,Bool.and_eq_true] at h5
    have h6:=h5.1
    cases hg:Γ[s]? with
    | none=>
      have:sh.getD s (9,9)=(9,9):=by rw [←hl];simp [List.getD_eq_getElem?_getD,hg]
      rw [this] at h6;simp at h6
    | some x=>
      rw [shape_get hl hg] at h6
      cases x with
      | fr p=>simp [Pm.shape] at h6
      | al a b c=>simp [Pm.shape] at h6
      | st j=>simp only [Pm.shape,Nat.beq_eq] at h6;rw [h6]
variable {ty:TypeId} {pos:String} {after:Array Edge} {g:Option (Nat×Bool)}
theorem ObS.f {Γ:List Pm} {i:Nat} {d:Tmp} {op:Op} {p:VP} (hi:ops[i]?=some ⟨some d,op,ty,pos,after,g⟩) (hr:∀σ,Run ops (envS ops σ Γ (deps ops i)++ρ) ⟨some d,op,ty,pos,after,g⟩) (ho:∀σ N,OpOk C ⟨some d,op,ty,pos,after,g⟩ (envS ops σ Γ (deps ops i)++ρ) (N++L0) p (N++L0)):ObS C ops Q ρ L0 Γ i (.fr p):=fun σ N m w a s t K h=>by
  have hd:dstOf ops i=d:=by simp [dstOf,hi]
  unfold wpOp
  simp only [hi]
  rw [if_pos (hr σ _ m a t)]
  refine .inl (ho σ N m w a s t K Q fun m' w' v hm s' hp=>?_)
  have:=h m' w' v hm s' hp
  rwa [hd] at this
theorem ObS.a {α:Type} {k:Kd α} {z:α} {Γ:List Pm} {i:Nat} {d:Tmp} {e:TypeId} {tok2:Nat→OB} {s0:Nat} (hi:ops[i]?=some ⟨some d,.alloc e,ty,pos,after,none⟩) (hz:ZeroOk C.P e k z):ObS C ops Q ρ L0 Γ i (.al (fun b=>OB.box b e k z) tok2 s0):=fun σ N m w a s t K h=>by
  have hd:dstOf ops i=d:=by simp [dstOf,hi]
  obtain ⟨ii,v,h1,h2,h3⟩:=hz
  unfold wpOp
  simp only [hi]
  rw [if_pos (by simp [Region.wanted])]
  refine .inl ?_
  have hrun:(execOp a.eval ⟨some d,.alloc e,ty,pos,after,none⟩).run C.P w = .ok (.value (.pointer (some ⟨w.heap.size,0,none⟩))) (w.alloc (.cells v.cells.toList.toArray e)):=by
    simp [execOp,Instr.alloc,zeroValue,typeInfo,h1,h2,newVar,newRow]
  unfold Oper.wp
  rw [hrun]
  have:=h m _ w.heap.size (Mem.le_refl m) (alloc_box s (h3 m))
  rwa [hd] at this
theorem ObS.s {Γ:List Pm} {i j:Nat} {op:Op} {p:VP} {tok tok2:Nat→OB} {s0:Nat} (hj:Γ[j]?=some (.al tok tok2 s0)) (hi:ops[i]?=some ⟨none,op,ty,pos,after,g⟩) (hr:∀σ,Run ops (envS ops σ Γ (deps ops i)++ρ) ⟨none,op,ty,pos,after,g⟩) (ho:∀σ N,OpOk C ⟨none,op,ty,pos,after,g⟩ (envS ops σ Γ (deps ops i)++ρ) (tok (σ j)::(N++L0)) p (tok2 (σ j)::(N++L0))):ObS C ops Q ρ L0 Γ i (.st j):=fun tok' tok2' s' hj' σ N m w a s t K h=>by
  rw [hj] at hj'
  cases hj'
  unfold wpOp
  simp only [hi]
  rw [if_pos (hr σ _ m a t)]
  exact .inl (ho σ N m w a s t K Q fun m' w' v hm s' hp=>h m' w' hm s')
end
abbrev sv (b n cap:Nat):Value:=.slice (some ⟨b,0,none⟩) n cap
abbrev wv (b o n:Nat):Value:=.slice (some ⟨b,o,none⟩) n n
section
variable {C:Ctx} {Q:Exit→Act→World→Prop} {ρ ρ':Env} {L L':List OB} {ops:Array Oper} {rest:List Oper}
  {dst:Option Tmp} {ty:TypeId} {pos:String} {after:Array Edge} {g:Option (Nat×Bool)}
theorem WP.mkE {α:Type} {k:Kd α} {z:α} {d:Tmp} {T e:TypeId} {x y:Operand} {ki kj:IntKind} {n:Int} (c:Nat) (hr:Run ops ρ ⟨some d,.makeSlice T x y,ty,pos,after,g⟩) (hx:ev ρ x=some ((kInt ki).is 0)) (hy:ev ρ y=some ((kInt kj).is n)) (hn:n=c) (hc:c≤1099511627776)
    (hu:C.P.underlying T=some (.slice e)) (he:ElOk C.P e k) (hz:ZeroOk C.P e k z) (h:∀b,WP C ops Q rest ((d,VP.ex (sv b 0 c))::ρ) (OB.row (sv b 0 c) e k ([]:List α)::L)) (hd:Nat.blt d C.N=true:=by rfl) :
    WP C ops Q (⟨some d,.makeSlice T x y,ty,pos,after,g⟩::rest) ρ L:=fun m w a s t=>by
  subst hn
  obtain ⟨i,v,h1,h2,h3,h4,h5,h6⟩:=he
  unfold wpList
  rw [if_pos (hr _ m a t)]
  refine .inl ?_
  have hrun:=run_make (P:=C.P) w T e i v hu h1 h2 ki kj (0:Int) (c:Int) (by omega) (by omega) (by
    have:(i.bytes:Int)*(c:Int)≤128*1099511627776:=Int.mul_le_mul (by omega) (by omega) (by omega) (by omega)
    omega) (by omega)
  simp only [Int.toNat_natCast] at hrun
  unfold Oper.wp
  have hrun':(execOp a.eval ⟨some d,.makeSlice T x y,ty,pos,after,g⟩).run C.P w = .ok (.value (.slice (some ⟨w.heap.size,0,none⟩) 0 c)) (w.alloc (.cells (madeCells v.cells (c*i.size)) e)):=by
    simp [execOp,t.int hx,t.int hy,hrun]
  rw [hrun']
  have hgrow:Grow [] w (w.alloc (.cells (madeCells v.cells (c*i.size)) e)):=⟨rfl,rfl,rfl,by simp,fun i hi _=>RowKit.Below.heap_alloc w _ i hi⟩
  have hsz:(madeCells v.cells (c*i.size)).size=c*k.sz:=by rw [size_madeCells,h3]
  refine h w.heap.size m _ _ (s.new hgrow (OB.row (.slice (some ⟨w.heap.size,0,none⟩) 0 c) e k ([]:List α)) ⟨[],⟨?_,.inr ⟨w.heap.size,c,_,?_,Nat.zero_le _,heap_alloc_new w _,?_,?_,hsz,?_⟩⟩,rfl,by simp⟩ ?_) (t.put rfl hd)
  · simp
  · simp
  · simp
  · unfold maxLen;omega
  · simp
  · intro i hi
    simp [OB.row,Value.ownBlock] at hi
    subst hi
    simp
theorem WP.apE {α:Type} {k:Kd α} {xs ys:List α} {b N cap:Nat} {q:VP} {d:Tmp} {T e:TypeId} {x y:Operand} (j M:Nat) (hr:Run ops ρ ⟨some d,.call ⟨.builtin .append,#[x,y],#[T,T]⟩,ty,pos,after,g⟩) (hx:ev ρ x=some (VP.ex (sv b N cap))) (hj:L[j]?=some (OB.row (sv b N cap) e k xs)) (hy:ev ρ y=some q) (hq:VP.le q ((kSl k).is ys))
    (hu:C.P.underlying T=some (.slice e)) (he:ElOk C.P e k) (hl:xs.length+ys.length≤1099511627776) (h0:0<ys.length) (hM:M=xs.length+ys.length) (hroom:M≤cap) (h:WP C ops Q rest ((d,VP.ex (sv b M cap))::ρ) (L.set j (OB.row (sv b M cap) e k (xs++ys)))) (hd:Nat.blt d C.N=true:=by rfl) :
    WP C ops Q (⟨some d,.call ⟨.builtin .append,#[x,y],#[T,T]⟩,ty,pos,after,g⟩::rest) ρ L:=fun m w a s t=>by
  subst hM
  obtain ⟨i,z,h1,h2,h3,h4,h5,h6⟩:=he
  obtain ⟨cells,o1,o2,o3⟩:=row_own s (List.mem_of_getElem? hj)
  obtain ⟨ad,capy,e1,e2,e3,e4⟩:=Kd.is_sl (hq _ _ (t.evl hy))
  unfold wpList
  rw [if_pos (hr _ m a t)]
  refine .inl ?_
  have hN:N=xs.length:=by
    obtain ⟨_,_,hv,_⟩:=owns_lenEq o1
    injection hv
  subst hN
  rcases e4 with rfl | ⟨b',o,c,news,rfl,f1,f2,f3⟩
  · exact absurd h0 (by simp)
  · obtain ⟨v',w',r1,r2,r3,_,r5⟩:=run_append_own_at (P:=C.P) w 0 T ty e i z k.sz i.bytes hu h1 h2 h3 rfl h5 h6 (sv b xs.length cap) xs.length cells o1 ⟨b',o,none⟩ ys.length capy news f3.len (fun j u hj=>by rw [Addr.add_lit];exact f2.cells s.fits f1 j u hj) f3.flat (by unfold maxLen;omega) (by
        have:(xs.length+ys.length)*i.bytes≤1099511627776*128:=Nat.mul_le_mul hl h4
        omega) (Nat.zero_le _)
    have hv':v'=sv b (xs.length+ys.length) cap:=by
      rcases o1.2 with ⟨hno,_⟩ | ⟨b2,cap2,cur,hv,_,hA,hcap,hm,hsz,hcur⟩
      · cases hno
      · injection hv with hv1 hv2 hv3
        injection hv1 with hv1
        injection hv1 with hv1
        subst hv1 hv3
        have hns:news.length=ys.length*k.sz:=f3.len
        have hbnd:xs.length*k.sz+ys.length*k.sz≤cap*k.sz:=by rw [←Nat.add_mul];exact Nat.mul_le_mul_right _ hroom
        have rr:=run_append_room_cells (P:=C.P) w T ty e i hu h1 b 0 xs.length cap ⟨b',o,none⟩ ys.length capy news (by rw [h3];exact hns) (fun j u hj=>by rw [Addr.add_lit];exact f2.cells s.fits f1 j u hj) f3.flat hroom
          (fun j hj=>by
            rw [h3]
            simp only [World.cell?,hA]
            rw [if_neg (by simp),Array.getElem?_eq_getElem (by omega)];rfl)
          (fun j hj=>by simp [World.frozen?,hA])
        rw [r1] at rr
        injection rr
    subst hv'
    unfold Oper.wp
    have hrun:(execOp a.eval ⟨some d,.call ⟨.builtin .append,#[x,y],#[T,T]⟩,ty,pos,after,g⟩).run C.P w = .ok (.value (sv b (xs.length+ys.length) cap)) w':=by
      simp [execOp,resolve,invoke,builtin,t.ex hx,e1,r1]
    rw [hrun]
    have hlen:(xs++ys).length=xs.length+ys.length:=by simp
    refine h m _ _ (s.turn j _ _ hj (Grow.of_grownBy r3) ⟨cells++news,by rw [hlen];exact r2,o2.append f3,by rw [hlen];exact hl⟩ ?_) (t.put rfl hd)
    intro i hi
    left
    simpa [OB.row,Value.ownBlock] using hi
theorem O.slE {b N cap sz:Nat} {x y z u:Operand} {ki kj kk:IntKind} {n n' n'':Int} {T e:TypeId} {agg:Bool} (l h:Nat) (hx:ev ρ x=some (VP.ex (sv b N cap))) (hy:ev ρ y=some ((kInt ki).is n)) (hz:ev ρ z=some ((kInt kj).is n')) (hw:ev ρ u=some ((kInt kk).is n'')) (hu:C.P.underlying T=some (.slice e)) (ht:TyOk C.P e agg sz) (hn:n=l) (hn':n'=h) (hn'':n''=h) (hlh:l<h) (hle:h≤cap):OpOk C ⟨dst,.slice T x (some y) (some z) (some u),ty,pos,after,g⟩ ρ L (VP.ex (wv b (l*sz) (h-l))) L:=OpOk.val fun m w f s t=>by
  subst hn hn' hn''
  have hb:(Instr.sliceBounds true N cap (some (.int ki (l:Int))) (some (.int kj (h:Int))) (some (.int kk (h:Int)))).run C.P w = .ok (l,h,h) w:=by
    simp [Instr.sliceBounds,run_bound (P:=C.P) w ki l h _ (Nat.le_of_lt hlh),run_bound (P:=C.P) w kj h h _ (Nat.le_refl _),run_bound (P:=C.P) w kk h cap _ hle]
  refine ⟨_,?_,rfl⟩
  simp only [execOp,t.ex hx,t.int hy,t.int hz,t.int hw,Option.map_some,Sem.run_bind,run_slice hu ht w _ N cap l h h _ _ _ hb,Result.andThen_ok]
  rw [if_neg (by omega)]
  simp [Addr.add_lit]
theorem ST.freezeW {α:Type} {K:Act→World→Prop} {k:Kd α} {xs:List α} {vs:List Value} {xss:List (List α)} {b N cap:Nat} {v:Value} {e e1:TypeId} (jf jr:Nat) (hf:L[jf]?=some (OB.row (sv b N cap) e k xs)) (hr:(L.eraseIdx jf)[jr]?=some (OB.row v e1 kVal vs)) (hl:vs.length=xss.length)
    (hw:∀i,i<vs.length→∃l h,vs.getD i nilV=wv b (l*k.sz) (h-l)∧l<h∧h≤xs.length∧xss.getD i []=(xs.take h).drop l)
    (hi:FImp v ((kSl (kSl k)).is xss) ρ ρ') (h:ST C K ρ' ((L.eraseIdx jf).eraseIdx jr)):ST C K ρ L:=fun m w a s t=>by
  obtain ⟨m1,a1,a2,a3⟩:=s.frozen hf
  obtain ⟨m2,b1,b2,b3⟩:=a2.frozen hr
  have hv:=vals_sl (xss:=xss) hl (fun i hi=>by
    obtain ⟨l,h,e1,e2,e3,e4⟩:=hw i hi
    rw [e1,e4]
    obtain ⟨ad,cp,c1,c2,c3,c4⟩:=Kd.is_sl (((kSl k).is xs).mono b1 a3)
    injection c1 with c5 c6 c7
    subst c5 c7
    have:=sl_cut (k:=k) (m:=m2) (l:=l) (h:=h) (mx:=h) c2 c3 c4 (Nat.le_of_lt e2) e3 (Nat.le_refl _)
    rw [if_neg (by omega)] at this
    simpa [Addr.add_lit] using this) b3
  exact h m2 w a b2 (hi _ _ _ hv (t.up (Mem.le_trans a1 b1)))
theorem CW.scope {c:Code} (h:CW C (Exit.noGoto Q) c ρ L):CW C Q (.scope c) ρ L:=fun m w a s t=>wp_scope_straight (h m w a s t)
theorem QE.scR (h:QE C Q .ret ρ L):QE C (Exit.noGoto Q) .ret ρ L:=h
end
abbrev VP.pt (b o:Nat):VP:=VP.ex (.pointer (some ⟨b,o,none⟩))
section
variable {C:Ctx} {Q:Exit→Act→World→Prop} {ρ ρ':Env} {L L' L0:List OB} {ops:Array Oper} {rest:List Oper}
theorem Imp.c4 {i1 i2 i3 i4:Nat} {p1 p2 p3 p4:VP} (e1:ρ.get i1=some p1) (e2:ρ.get i2=some p2) (e3:ρ.get i3=some p3) (e4:ρ.get i4=some p4) (h:Imp ρ ρ'):Imp ρ ((i1,p1)::(i2,p2)::(i3,p3)::(i4,p4)::ρ'):=.cons e1 (.cons e2 (.cons e3 (.cons e4 h)))
abbrev af:=@Imp.c4
theorem DO.sn {fuel j:Nat} {listed:Array Bool} {d:Tmp} {op:Op} {ty:TypeId} {pos:String} {after:Array Edge} {g:Option (Nat×Bool)} {p:VP} (hi:ops[j]?=some ⟨some d,op,ty,pos,after,g⟩) (hr:Run ops ρ ⟨some d,op,ty,pos,after,g⟩) (ho:OpOk C ⟨some d,op,ty,pos,after,g⟩ ρ L p L') (h:DA C ops Q fuel (listed.setIfInBounds j true) ((d,p)::ρ) L') (hd:Nat.blt d C.N=true:=by rfl):DO C ops Q fuel listed j ρ L:=DO.w hi (WP.s hr ho (WP.nil (DO.nx h)) hd)
abbrev aC:=@DO.sn
theorem DO.tn {fuel j:Nat} {listed:Array Bool} {op:Op} {ty:TypeId} {pos:String} {after:Array Edge} {g:Option (Nat×Bool)} {p:VP} (hi:ops[j]?=some ⟨none,op,ty,pos,after,g⟩) (hr:Run ops ρ ⟨none,op,ty,pos,after,g⟩) (ho:OpOk C ⟨none,op,ty,pos,after,g⟩ ρ L p L') (h:DA C ops Q fuel (listed.setIfInBounds j true) ρ L'):DO C ops Q fuel listed j ρ L:=DO.w hi (WP.t hr ho (WP.nil (DO.nx h)))
abbrev bg:=@DO.tn
def ObL (C:Ctx) (ops:Array Oper) (Q:Exit→Act→World→Prop) (ρ:Env) (L0:List OB) (Γ:List Pl):Nat→List Pl→Prop
  | _,[]=>True
  | i,x::xs=>Ob C ops Q ρ L0 Γ i x∧ObL C ops Q ρ L0 Γ (i+1) xs
theorem oc {Γ xs:List Pl} {i:Nat} {x:Pl} (h:Ob C ops Q ρ L0 Γ i x) (t:ObL C ops Q ρ L0 Γ (i+1) xs):ObL C ops Q ρ L0 Γ i (x::xs):=⟨h,t⟩
theorem oz {Γ:List Pl} {i:Nat}:ObL C ops Q ρ L0 Γ i []:=trivial
theorem ObL.get {Γ:List Pl}:∀{xs:List Pl} {k:Nat},ObL C ops Q ρ L0 Γ k xs→∀i x,xs[i]?=some x→Ob C ops Q ρ L0 Γ (k+i) x
  | [],_,_,i,x,h=>by simp at h
  | y::ys,k,⟨h1,h2⟩,0,x,h=>by simp at h;subst h;exact h1
  | y::ys,k,⟨h1,h2⟩,i+1,x,h=>by
    have:=ObL.get h2 i x (by simpa using h)
    rw [show k+(i+1)=k+1+i by omega];exact this
theorem CW.drawL {id:Nat} {Γ:List Pl} {lates:List Bool} (hm:C.P.follows .mixedOrders=true) (ck:Chk C.N ops ρ Γ lates) (hQ:∀c (a:Act) d v w,Q (.panic c) (a.put (some d) v) w→Q (.panic c) a w)
    (ob:ObL C ops Q ρ L0 Γ 0 Γ) (h:∀σ,WP C ops Q (ops.toList.drop Γ.length) (allEnv ops σ 0 Γ++ρ) (allToks σ 0 Γ++L0)):CW C Q (.region id ops true) ρ L0:=
  CW.draw hm ck hQ (fun i x h=>by have:=ObL.get ob i x h;rwa [Nat.zero_add] at this) h
end
section
variable {C:Ctx} {Q:Exit→Act→World→Prop} {ρ:Env} {L L' L0:List OB} {ops:Array Oper} {rest:List Oper} {d:Tmp} {op:Op} {ty:TypeId} {pos:String} {after:Array Edge} {p:VP} {x:Operand}
theorem Ws (ho:OpOk C ⟨some d,op,ty,pos,after,none⟩ ρ L p L') (h:WP C ops Q rest ((d,p)::ρ) L') (hd:Nat.blt d C.N=true:=by rfl):WP C ops Q (⟨some d,op,ty,pos,after,none⟩::rest) ρ L:=WP.s .n ho h hd
theorem Wm (e:ev ρ x=some p) (h:WP C ops Q rest ((d,p)::ρ) L) (hd:Nat.blt d C.N=true:=by rfl):WP C ops Q (⟨some d,.move x,ty,pos,after,none⟩::rest) ρ L:=WP.s .n (O.mv e) h hd
theorem Wa (e:ev ρ x=some p) (h:WP C ops Q rest ((d,p)::ρ) L) (hd:Nat.blt d C.N=true:=by rfl):WP C ops Q (⟨some d,.assign x,ty,pos,after,none⟩::rest) ρ L:=WP.s .n (O.asg e) h hd
theorem Wn {y:Code} (h:CW C Q y ρ L):WP C ops (Exit.then (y.wp C.P Q) Q) [] ρ L:=WP.nil (QE.next h)
theorem Cr {id:Nat} {l:List Oper} {y:Code} (h:WP C l.toArray (Exit.then (y.wp C.P Q) Q) l ρ L):CW C Q (Code.seq (.region id l.toArray false) y) ρ L:=CW.seq (CW.region h)
theorem of_ {Γ xs:List Pl} {i:Nat} (hi:ops[i]?=some ⟨some d,op,ty,pos,after,none⟩) (ho:∀N,OpOk C ⟨some d,op,ty,pos,after,none⟩ (depEnv ops Γ (deps ops i)++ρ) (N++L0) p (N++L0)) (t:ObL C ops Q ρ L0 Γ (i+1) xs):ObL C ops Q ρ L0 Γ i (.fr p::xs):=⟨Ob.f hi .n ho,t⟩
abbrev J:=@of_
theorem DA1 {fuel:Nat} {listed:Array Bool} (j:Nat) (h:DO C ops Q fuel listed j ρ L) (hr:Region.ready .any ops listed=j::[]:=by kernel_rfl):DA C ops Q (fuel+1) listed ρ L:=DA.go j [] hr ⟨h,trivial⟩
abbrev az:=@DA1
theorem DAg {fuel:Nat} {listed:Array Bool} (j:Nat) (js:List Nat) (h:DAll C ops Q fuel listed ρ L (j::js)) (hr:Region.ready .any ops listed=j::js:=by kernel_rfl):DA C ops Q (fuel+1) listed ρ L:=DA.go j js hr h
abbrev bv:=@DAg
end
abbrev kGso:Kd (List Int×List (List Int)):=kPair (kSl kC) (kSl (kSl kC))
abbrev kMC:Kd (List (List Int)):=kSl (kSl kC)
abbrev kMZ:Kd (List (List Int)):=kSl (kSl kZ)
abbrev kVC:Kd (List Int):=kSl kC
abbrev kVZ:Kd (List Int):=kSl kZ
abbrev kRC:Kd (Int×Int):=kPair kC kC
abbrev kN6:Kd Int:=kInt .i64
theorem Li {α:Type} {k:Kd α}:Lens k 0 k (fun x=>x) (fun y _=>y):=Lens.id k
theorem Lr {p:VP}:VP.le p p:=VP.le_refl p
theorem Wr {C:Ctx} {Q:Exit→Act→World→Prop} {ρ:Env} {L:List OB} {ops:Array Oper} {id:Nat} {l:List Oper} {y:Code} (h:WP C l.toArray (Exit.then (y.wp C.P Q) Q) l ρ L):WP C ops (Exit.then ((Code.seq (.region id l.toArray false) y).wp C.P Q) Q) [] ρ L:=Wn (Cr h)
section
variable {C:Ctx} {Q:Exit→Act→World→Prop} {ρ ρ':Env} {L L' L0:List OB} {ops:Array Oper} {rest:List Oper} {d:Tmp} {op:Op} {ty:TypeId} {pos:String} {after:Array Edge} {p:VP} {x:Operand}
theorem CW.drawM {id:Nat} {Γ:List Pl} (ob:ObL C ops Q ρ L0 Γ 0 Γ) (h:∀σ,WP C ops Q (ops.toList.drop Γ.length) (allEnv ops σ 0 Γ++ρ) (allToks σ 0 Γ++L0))
    (hm:C.P.follows .mixedOrders=true:=by kernel_rfl) (hc:chkB C.N ops Γ.length (Γ.map Pl.late)=true:=by kernel_rfl) (hρ:(List.range Γ.length).all (fun i=>(ρ.get (dstOf ops i)).isNone)=true:=by rfl) (hQ:∀c (a:Act) d v w,Q (.panic c) (a.put (some d) v) w→Q (.panic c) a w:=by exact fun _ _ _ _ _ h=>h):CW C Q (.region id ops true) ρ L0:=
  CW.drawL hm (Chk.of rfl hc hρ) hQ ob h
abbrev ba:=@CW.drawM
theorem om {Γ xs:List Pl} {i:Nat} (hi:ops[i]?=some ⟨some d,.move x,ty,pos,after,none⟩) (e:ev (depEnv ops Γ (deps ops i)++ρ) x=some p) (t:ObL C ops Q ρ L0 Γ (i+1) xs):ObL C ops Q ρ L0 Γ i (.fr p::xs):=⟨Ob.f hi .n fun N=>O.mv e,t⟩
theorem kp {v:Value} {q:VP} (i:Nat) {p:VP} (e:ρ.get i=some p) (h:FImp v q ρ ρ'):FImp v q ρ ((i,p)::ρ'):=FImp.keep e h
end
section
variable {C:Ctx} {Q:Exit→Act→World→Prop} {ρ ρ':Env} {L L' L0:List OB} {ops:Array Oper} {rest:List Oper} {d:Tmp} {op:Op} {ty:TypeId} {pos:String} {after:Array Edge} {g:Option (Nat×Bool)} {p q:VP} {x y:Operand} {dst:Option Tmp}
theorem Qd {P:Program} {fn:Func} {m0:Mem} {w0:World} {N:Nat} {Li:List OB} {post:VP→List OB→Prop} {rs:List ResultVar} {ps:List VP} (h:fn.results=rs.toArray) (hr:ResOk ⟨P,N,m0,w0,idsOf Li⟩ ρ L rs ps) (hp:post (resVP ps) []):QE ⟨P,N,m0,w0,idsOf Li⟩ (bodyPost P fn (Out P m0 w0 Li post)) .ret ρ L:=QE.done (.inl rfl) h hr (OImp.sub (List.nil_sublist _)) hp
theorem Ex {n1 n2:Act→World→Prop} {id:Nat} {c:Code} (h:CW C Q c ρ L):CW C (Exit.then n1 (Exit.then n2 (Exit.inBlock id (Exit.then (c.wp C.P Q) Q)))) (.exit id) ρ L:=CW.exit (QE.thenE (QE.thenE (QE.blkH (QE.next h))))
theorem Ck {c:Code} (h:CW C Q c ρ L):CW C (Exit.then (c.wp C.P Q) Q) .skip ρ L:=CW.skip (QE.next h)
theorem Qb {id:Nat} {c:Code} (h:CW C Q c ρ L):QE C (Exit.inBlock id (Exit.then (c.wp C.P Q) Q)) .normal ρ L:=QE.blkN (QE.next h)
theorem f1 {f:FuncId} {tys:Array TypeId} {res:VP} (hf:FnOk C.P f) (e:ev ρ x=some p) (hc:Fn C.P f [p] res):OpOk C ⟨dst,.call ⟨.value (.func f),[x].toArray,tys⟩,ty,pos,after,g⟩ ρ L res L:=O.fn hf (evs.c e evs.nil) hc
theorem f2 {f:FuncId} {tys:Array TypeId} {res:VP} (hf:FnOk C.P f) (e:ev ρ x=some p) (e2:ev ρ y=some q) (hc:Fn C.P f [p,q] res):OpOk C ⟨dst,.call ⟨.value (.func f),[x,y].toArray,tys⟩,ty,pos,after,g⟩ ρ L res L:=O.fn hf (evs.c e (evs.c e2 evs.nil)) hc
theorem tb {α:Type} {b:Nat} {e:TypeId} {k:Kd α} {x y:α} {K:Act→World→Prop} (j:Nat) (hj:L[j]?=some (OB.box b e k x)) (hl:x=y) (h:ST C K ρ (L.set j (OB.box b e k y))):ST C K ρ L:=ST.obtold j hj (OB.box_eq hl) h
theorem tr {α:Type} {v:Value} {e:TypeId} {k:Kd α} {x y:List α} {K:Act→World→Prop} (j:Nat) (hj:L[j]?=some (OB.row v e k x)) (hl:x=y) (h:ST C K ρ (L.set j (OB.row v e k y))):ST C K ρ L:=ST.obtold j hj (OB.row_eq hl) h
theorem tf {α:Type} {vs:List Value} {e:TypeId} {k:Kd α} {x y:List (List α)} {K:Act→World→Prop} (j:Nat) (hj:L[j]?=some (OB.fam vs e k x)) (hl:x=y) (h:ST C K ρ (L.set j (OB.fam vs e k y))):ST C K ρ L:=ST.obtold j hj (OB.fam_eq rfl hl) h
theorem tl {α:Type} {k:Kd α} {x y:α} {K:Act→World→Prop} (i:Nat) (e:ρ.get i=some (k.is x)) (hl:x=y) (h:ST C K ((i,k.is y)::ρ) L):ST C K ρ L:=ST.told i e (is_eq hl) h
theorem CN {a c:Code} {z:Prop} [Decidable z] (e:ev ρ x=some (kBool.is (decide z))) (n:¬z) (hf:¬z→CW C Q c ρ L):CW C Q (.cond x a c) ρ L:=CW.condD e (fun h=>absurd h n) hf
theorem CY {a c:Code} {z:Prop} [Decidable z] (e:ev ρ x=some (kBool.is (decide z))) (n:z) (ht:z→CW C Q a ρ L):CW C Q (.cond x a c) ρ L:=CW.condD e ht (fun h=>absurd n h)
theorem Wg {j t:Nat} {b:Bool} (hj:(ops[j]?).bind (·.dst)=some t) (e:ρ.get t=some (kBool.is b)) (ho:OpOk C ⟨some d,op,ty,pos,after,some (j,b)⟩ ρ L p L') (h:WP C ops Q rest ((d,p)::ρ) L') (hd:Nat.blt d C.N=true:=by rfl):WP C ops Q (⟨some d,op,ty,pos,after,some (j,b)⟩::rest) ρ L:=WP.s (.g hj e) ho h hd
theorem Kt {j t:Nat} (hj:(ops[j]?).bind (·.dst)=some t) (e:ρ.get t=some (kBool.is true)) (h:WP C ops Q rest ((d,VP.ex undef)::ρ) L) (hd:Nat.blt d C.N=true:=by rfl):WP C ops Q (⟨some d,op,ty,pos,after,some (j,false)⟩::rest) ρ L:=WP.ku (b:=true) hj e h hd
theorem Kf {j t:Nat} (hj:(ops[j]?).bind (·.dst)=some t) (e:ρ.get t=some (kBool.is false)) (h:WP C ops Q rest ((d,VP.ex undef)::ρ) L) (hd:Nat.blt d C.N=true:=by rfl):WP C ops Q (⟨some d,op,ty,pos,after,some (j,true)⟩::rest) ρ L:=WP.ku (b:=false) hj e h hd
theorem mN {α:Type} {l:List α} {x:α} (n:List α) (j:Nat) (h:l[j]?=some x):x∈n++l:=mem_app n (mem_at j h)
theorem Ax {α β:Type} {k:Kd α} {l:Kd β} {z:α} {u:β} {e T:TypeId} {agg:Bool} {ty2:TypeId} {pos2:String} {after2:Array Edge} (hz:ZeroOk C.P e k z) (hs:k.sz=l.sz) (ht:TyOk C.P T agg l.sz) (hy:∀b,ev ((d,VP.ex (.pointer (some ⟨b,0,none⟩)))::ρ) y=some q) (hq:VP.le q (l.is u)) (h:∀b,WP C ops Q rest ((d,VP.ex (.pointer (some ⟨b,0,none⟩)))::ρ) (OB.box b e l u::L)) (hd:Nat.blt d C.N=true:=by rfl):WP C ops Q (⟨some d,.alloc e,ty,pos,after,none⟩::⟨none,.store T (.tmp d) y,ty2,pos2,after2,none⟩::rest) ρ L:=
  WP.al .n hz (fun b=>WP.t .n (O.stW 0 (by simp [ev,Env.get]) rfl hs ht (hy b) hq) (h b)) hd
end
end Fw
namespace Fw
open Go Go.Proofs
abbrev U0:=Tryz.underlying0
abbrev U2:=Tryz.underlying2
abbrev U3:=Tryz.underlying3
abbrev U4:=Tryz.underlying4
abbrev U5:=Tryz.underlying5
abbrev U9:=Tryz.underlying9
abbrev U22:=Tryz.underlying22
abbrev U23:=Tryz.underlying23
abbrev U26:=Tryz.underlying26
abbrev U27:=Tryz.underlying27
abbrev U93:=Tryz.underlying93
abbrev U148:=Tryz.underlying148
abbrev U155:=Tryz.underlying155
abbrev U178:=Tryz.underlying178
abbrev U180:=Tryz.underlying180
theorem info93:(Tryz.prog.info? 93).map (fun i=>(i.zero,i.size,i.bytes))=some (some (.int .u32 0),1,4):=by kernel_rfl
theorem ty93:TyOk Tryz.prog 93 false 1:=⟨_,Tryz.underlying93,rfl,by kernel_rfl⟩
abbrev aP:=@ty93
theorem el93_limb:ElOk Tryz.prog 93 kLimb:=elOk_of info93 rfl rfl rfl
abbrev bO:=@el93_limb
theorem fn190:FnOk Tryz.prog 190:=⟨_,Tryz.func190,by kernel_rfl,rfl⟩
theorem fn191:FnOk Tryz.prog 191:=⟨_,Tryz.func191,by kernel_rfl,rfl⟩
abbrev cT:=@fn191
theorem fn192:FnOk Tryz.prog 192:=⟨_,Tryz.func192,by kernel_rfl,rfl⟩
theorem fn267:FnOk Tryz.prog 267:=⟨_,Tryz.func267,by kernel_rfl,rfl⟩
theorem z93_limb:ZeroOk Tryz.prog 93 kLimb 0:=zeroOk_of info93 fun m=>⟨rfl,by decide⟩
abbrev dC:=@z93_limb
theorem info29:(Tryz.prog.info? 29).map (fun i=>(i.zero,i.size,i.bytes))=some (some (.agg #[.bool false,.slice none 0 0]),2,32):=by kernel_rfl
theorem ty27:TyOk Tryz.prog 27 false 1:=⟨_,Tryz.underlying27,rfl,by kernel_rfl⟩
abbrev bM:=@ty27
theorem ty29:TyOk Tryz.prog 29 true 2:=⟨_,Tryz.underlying29,rfl,by kernel_rfl⟩
abbrev ab:=@ty29
theorem ty4:TyOk Tryz.prog 4 false 1:=⟨_,Tryz.underlying4,rfl,by kernel_rfl⟩
abbrev cy:=@ty4
theorem fld29_0:FldOk Tryz.prog 29 0 0:=fld_of (n:=0) (by kernel_rfl)
abbrev cw:=@fld29_0
theorem fld29_1:FldOk Tryz.prog 29 1 1:=fld_of (n:=0) (by kernel_rfl)
abbrev bK:=@fld29_1
theorem fn120:FnOk Tryz.prog 120:=⟨_,Tryz.func120,by kernel_rfl,rfl⟩
theorem fn137:FnOk Tryz.prog 137:=⟨_,Tryz.func137,by kernel_rfl,rfl⟩
abbrev dG:=@fn137
theorem fn242:FnOk Tryz.prog 242:=⟨_,Tryz.func242,by kernel_rfl,rfl⟩
theorem fn243:FnOk Tryz.prog 243:=⟨_,Tryz.func243,by kernel_rfl,rfl⟩
theorem lit29_C:LitOk Tryz.prog 29 kC ([(0,1),(1,1)].toArray[·]?) 0:=lit_of info29 (by kernel_rfl) fun m=>zero_C m
abbrev dR:=@lit29_C
theorem lit29_I:LitOk Tryz.prog 29 kI ([(0,1),(1,1)].toArray[·]?) (false,[]):=lit_of info29 (by kernel_rfl) fun m=>zero_I m
abbrev eo:=@lit29_I
theorem z29_C:ZeroOk Tryz.prog 29 kC 0:=zeroOk_of info29 fun m=>zero_C m
abbrev aZ:=@z29_C
theorem fn125:FnOk Tryz.prog 125:=⟨_,Tryz.func125,by kernel_rfl,rfl⟩
theorem fn139:FnOk Tryz.prog 139:=⟨_,Tryz.func139,by kernel_rfl,rfl⟩
abbrev dV:=@fn139
theorem fn158:FnOk Tryz.prog 158:=⟨_,Tryz.func158,by kernel_rfl,rfl⟩
abbrev dz:=@fn158
theorem fn196:FnOk Tryz.prog 196:=⟨_,Tryz.func196,by kernel_rfl,rfl⟩
theorem fn197:FnOk Tryz.prog 197:=⟨_,Tryz.func197,by kernel_rfl,rfl⟩
theorem fn198:FnOk Tryz.prog 198:=⟨_,Tryz.func198,by kernel_rfl,rfl⟩
theorem fn245:FnOk Tryz.prog 245:=⟨_,Tryz.func245,by kernel_rfl,rfl⟩
theorem fn246:FnOk Tryz.prog 246:=⟨_,Tryz.func246,by kernel_rfl,rfl⟩
abbrev dL:=@fn246
theorem fn247:FnOk Tryz.prog 247:=⟨_,Tryz.func247,by kernel_rfl,rfl⟩
theorem fn257:FnOk Tryz.prog 257:=⟨_,Tryz.func257,by kernel_rfl,rfl⟩
theorem fn270:FnOk Tryz.prog 270:=⟨_,Tryz.func270,by kernel_rfl,rfl⟩
theorem fn271:FnOk Tryz.prog 271:=⟨_,Tryz.func271,by kernel_rfl,rfl⟩
theorem fn272:FnOk Tryz.prog 272:=⟨_,Tryz.func272,by kernel_rfl,rfl⟩
theorem fn273:FnOk Tryz.prog 273:=⟨_,Tryz.func273,by kernel_rfl,rfl⟩
theorem fn274:FnOk Tryz.prog 274:=⟨_,Tryz.func274,by kernel_rfl,rfl⟩
theorem fn275:FnOk Tryz.prog 275:=⟨_,Tryz.func275,by kernel_rfl,rfl⟩
theorem fn145:FnOk Tryz.prog 145:=⟨_,Tryz.func145,by kernel_rfl,rfl⟩
theorem fn189:FnOk Tryz.prog 189:=⟨_,Tryz.func189,by kernel_rfl,rfl⟩
abbrev dU:=@fn189
theorem fn193:FnOk Tryz.prog 193:=⟨_,Tryz.func193,by kernel_rfl,rfl⟩
theorem fn253:FnOk Tryz.prog 253:=⟨_,Tryz.func253,by kernel_rfl,rfl⟩
theorem fn57:FnOk Tryz.prog 57:=⟨_,Tryz.func57,by kernel_rfl,rfl⟩
abbrev dp:=@fn57
theorem fn213:FnOk Tryz.prog 213:=⟨_,Tryz.func213,by kernel_rfl,rfl⟩
theorem fn71:FnOk Tryz.prog 71:=⟨_,Tryz.func71,by kernel_rfl,rfl⟩
theorem fn127:FnOk Tryz.prog 127:=⟨_,Tryz.func127,by kernel_rfl,rfl⟩
theorem fn161:FnOk Tryz.prog 161:=⟨_,Tryz.func161,by kernel_rfl,rfl⟩
theorem fn199:FnOk Tryz.prog 199:=⟨_,Tryz.func199,by kernel_rfl,rfl⟩
theorem fn209:FnOk Tryz.prog 209:=⟨_,Tryz.func209,by kernel_rfl,rfl⟩
theorem fn88:FnOk Tryz.prog 88:=⟨_,Tryz.func88,by kernel_rfl,rfl⟩
theorem fn214:FnOk Tryz.prog 214:=⟨_,Tryz.func214,by kernel_rfl,rfl⟩
theorem fn211:FnOk Tryz.prog 211:=⟨_,Tryz.func211,by kernel_rfl,rfl⟩
theorem fn254:FnOk Tryz.prog 254:=⟨_,Tryz.func254,by kernel_rfl,rfl⟩
theorem fn255:FnOk Tryz.prog 255:=⟨_,Tryz.func255,by kernel_rfl,rfl⟩
theorem fn256:FnOk Tryz.prog 256:=⟨_,Tryz.func256,by kernel_rfl,rfl⟩
theorem info31:(Tryz.prog.info? 31).map (fun i=>(i.zero,i.size,i.bytes))=some (some (.agg #[.bool false,.slice none 0 0,.bool false,.slice none 0 0]),4,64):=by kernel_rfl
theorem ty31:TyOk Tryz.prog 31 true 4:=⟨_,Tryz.underlying31,rfl,by kernel_rfl⟩
abbrev aL:=@ty31
theorem fn113:FnOk Tryz.prog 113:=⟨_,Tryz.func113,by kernel_rfl,rfl⟩
theorem fn128:FnOk Tryz.prog 128:=⟨_,Tryz.func128,by kernel_rfl,rfl⟩
abbrev dm:=@fn128
theorem fn136:FnOk Tryz.prog 136:=⟨_,Tryz.func136,by kernel_rfl,rfl⟩
theorem fn207:FnOk Tryz.prog 207:=⟨_,Tryz.func207,by kernel_rfl,rfl⟩
theorem fn208:FnOk Tryz.prog 208:=⟨_,Tryz.func208,by kernel_rfl,rfl⟩
theorem fn210:FnOk Tryz.prog 210:=⟨_,Tryz.func210,by kernel_rfl,rfl⟩
theorem fn77:FnOk Tryz.prog 77:=⟨_,Tryz.func77,by kernel_rfl,rfl⟩
abbrev dj:=@fn77
theorem lit31_pr_C_C_:LitOk Tryz.prog 31 (kPair kC kC) ([(0,2),(2,2)].toArray[·]?) (0,0):=lit_of info31 (by kernel_rfl) fun m=>⟨[.bool false,.slice none 0 0],[.bool false,.slice none 0 0],rfl,zero_C m,zero_C m⟩
abbrev eL:=@lit31_pr_C_C_
theorem z31_pr_C_C_:ZeroOk Tryz.prog 31 (kPair kC kC) (0,0):=zeroOk_of info31 fun m=>⟨[.bool false,.slice none 0 0],[.bool false,.slice none 0 0],rfl,zero_C m,zero_C m⟩
abbrev bU:=@z31_pr_C_C_
theorem ty23:TyOk Tryz.prog 23 false 1:=⟨_,Tryz.underlying23,rfl,by kernel_rfl⟩
abbrev aE:=@ty23
theorem fn61:FnOk Tryz.prog 61:=⟨_,Tryz.func61,by kernel_rfl,rfl⟩
theorem fld31_0:FldOk Tryz.prog 31 0 0:=fld_of (n:=1) (by kernel_rfl)
abbrev db:=@fld31_0
theorem fld31_1:FldOk Tryz.prog 31 1 2:=fld_of (n:=1) (by kernel_rfl)
abbrev cX:=@fld31_1
theorem fn114:FnOk Tryz.prog 114:=⟨_,Tryz.func114,by kernel_rfl,rfl⟩
theorem fn138:FnOk Tryz.prog 138:=⟨_,Tryz.func138,by kernel_rfl,rfl⟩
theorem fn174:FnOk Tryz.prog 174:=⟨_,Tryz.func174,by kernel_rfl,rfl⟩
theorem fn74:FnOk Tryz.prog 74:=⟨_,Tryz.func74,by kernel_rfl,rfl⟩
theorem fn122:FnOk Tryz.prog 122:=⟨_,Tryz.func122,by kernel_rfl,rfl⟩
abbrev de:=@fn122
theorem fn115:FnOk Tryz.prog 115:=⟨_,Tryz.func115,by kernel_rfl,rfl⟩
theorem fn119:FnOk Tryz.prog 119:=⟨_,Tryz.func119,by kernel_rfl,rfl⟩
theorem fn129:FnOk Tryz.prog 129:=⟨_,Tryz.func129,by kernel_rfl,rfl⟩
theorem fn188:FnOk Tryz.prog 188:=⟨_,Tryz.func188,by kernel_rfl,rfl⟩
theorem info23:(Tryz.prog.info? 23).map (fun i=>(i.zero,i.size,i.bytes))=some (some (.slice none 0 0),1,24):=by kernel_rfl
theorem el23_sl_Z:ElOk Tryz.prog 23 (kSl kZ):=elOk_of info23 rfl rfl rfl
abbrev eT:=@el23_sl_Z
theorem el29_Z:ElOk Tryz.prog 29 kZ:=elOk_of info29 rfl rfl rfl
theorem el29_C:ElOk Tryz.prog 29 kC:=elOk_of info29 rfl rfl rfl
abbrev bo:=@el29_C
theorem fn118:FnOk Tryz.prog 118:=⟨_,Tryz.func118,by kernel_rfl,rfl⟩
theorem fn126:FnOk Tryz.prog 126:=⟨_,Tryz.func126,by kernel_rfl,rfl⟩
theorem fn82:FnOk Tryz.prog 82:=⟨_,Tryz.func82,by kernel_rfl,rfl⟩
theorem info25:(Tryz.prog.info? 25).map (fun i=>(i.zero,i.size,i.bytes))=some (some (.agg #[.slice none 0 0,.slice none 0 0]),2,48):=by kernel_rfl
theorem ty22:TyOk Tryz.prog 22 false 1:=⟨_,Tryz.underlying22,rfl,by kernel_rfl⟩
abbrev bT:=@ty22
theorem ty25:TyOk Tryz.prog 25 true 2:=⟨_,Tryz.underlying25,rfl,by kernel_rfl⟩
abbrev bi:=@ty25
theorem el23_sl_C:ElOk Tryz.prog 23 (kSl kC):=elOk_of info23 rfl rfl rfl
abbrev c9:=@el23_sl_C
theorem fld25_0:FldOk Tryz.prog 25 0 0:=fld_of (n:=0) (by kernel_rfl)
abbrev cE:=@fld25_0
theorem fld25_1:FldOk Tryz.prog 25 1 1:=fld_of (n:=0) (by kernel_rfl)
abbrev cB:=@fld25_1
theorem lit25_pr_sl_C_sl_sl_C_:LitOk Tryz.prog 25 (kPair (kSl kC) (kSl (kSl kC))) ([(0,1),(1,1)].toArray[·]?) ([],[]):=lit_of info25 (by kernel_rfl) fun m=>⟨[.slice none 0 0],[.slice none 0 0],rfl,⟨none,0,rfl,by decide,by decide,.inl rfl⟩,⟨none,0,rfl,by decide,by decide,.inl rfl⟩⟩
theorem lit25_pr_val_val_:LitOk Tryz.prog 25 (kPair kVal kVal) ([(0,1),(1,1)].toArray[·]?) ((.slice none 0 0),(.slice none 0 0)):=lit_of info25 (by kernel_rfl) fun m=>⟨[.slice none 0 0],[.slice none 0 0],rfl,⟨rfl,rfl⟩,⟨rfl,rfl⟩⟩
abbrev co:=@lit25_pr_val_val_
theorem z25_pr_sl_C_sl_sl_C_:ZeroOk Tryz.prog 25 (kPair (kSl kC) (kSl (kSl kC))) ([],[]):=zeroOk_of info25 fun m=>⟨[.slice none 0 0],[.slice none 0 0],rfl,⟨none,0,rfl,by decide,by decide,.inl rfl⟩,⟨none,0,rfl,by decide,by decide,.inl rfl⟩⟩
abbrev er:=@z25_pr_sl_C_sl_sl_C_
theorem z25_pr_val_val_:ZeroOk Tryz.prog 25 (kPair kVal kVal) ((.slice none 0 0),(.slice none 0 0)):=zeroOk_of info25 fun m=>⟨[.slice none 0 0],[.slice none 0 0],rfl,⟨rfl,rfl⟩,⟨rfl,rfl⟩⟩
abbrev cK:=@z25_pr_val_val_
theorem fn212:FnOk Tryz.prog 212:=⟨_,Tryz.func212,by kernel_rfl,rfl⟩
theorem info26:(Tryz.prog.info? 26).map (fun i=>(i.zero,i.size,i.bytes))=some (some (.slice none 0 0),1,24):=by kernel_rfl
theorem ty26:TyOk Tryz.prog 26 false 1:=⟨_,Tryz.underlying26,rfl,by kernel_rfl⟩
abbrev bB:=@ty26
theorem el31_pr_C_C_:ElOk Tryz.prog 31 (kPair kC kC):=elOk_of info31 rfl rfl rfl
abbrev ef:=@el31_pr_C_C_
theorem fn103:FnOk Tryz.prog 103:=⟨_,Tryz.func103,by kernel_rfl,rfl⟩
theorem fn104:FnOk Tryz.prog 104:=⟨_,Tryz.func104,by kernel_rfl,rfl⟩
theorem fn52:FnOk Tryz.prog 52:=⟨_,Tryz.func52,by kernel_rfl,rfl⟩
theorem fn76:FnOk Tryz.prog 76:=⟨_,Tryz.func76,by kernel_rfl,rfl⟩
theorem ty3:TyOk Tryz.prog 3 false 1:=⟨_,Tryz.underlying3,rfl,by kernel_rfl⟩
theorem fn132:FnOk Tryz.prog 132:=⟨_,Tryz.func132,by kernel_rfl,rfl⟩
theorem fn140:FnOk Tryz.prog 140:=⟨_,Tryz.func140,by kernel_rfl,rfl⟩
theorem fn141:FnOk Tryz.prog 141:=⟨_,Tryz.func141,by kernel_rfl,rfl⟩
theorem fn153:FnOk Tryz.prog 153:=⟨_,Tryz.func153,by kernel_rfl,rfl⟩
theorem fn166:FnOk Tryz.prog 166:=⟨_,Tryz.func166,by kernel_rfl,rfl⟩
theorem fn98:FnOk Tryz.prog 98:=⟨_,Tryz.func98,by kernel_rfl,rfl⟩
theorem z23_sl_C:ZeroOk Tryz.prog 23 (kSl kC) []:=zeroOk_of info23 fun m=>⟨none,0,rfl,by decide,by decide,.inl rfl⟩
theorem info3:(Tryz.prog.info? 3).map (fun i=>(i.zero,i.size,i.bytes))=some (some (.int .i64 0),1,8):=by kernel_rfl
theorem el26_val:ElOk Tryz.prog 26 kVal:=elOk_of info26 rfl rfl rfl
theorem el3_int:ElOk Tryz.prog 3 kI64:=elOk_of info3 rfl rfl rfl
abbrev eJ:=@el3_int
theorem fn260:FnOk Tryz.prog 260:=⟨_,Tryz.func260,by kernel_rfl,rfl⟩
theorem fn261:FnOk Tryz.prog 261:=⟨_,Tryz.func261,by kernel_rfl,rfl⟩
theorem fn157:FnOk Tryz.prog 157:=⟨_,Tryz.func157,by kernel_rfl,rfl⟩
theorem fn227:FnOk Tryz.prog 227:=⟨_,Tryz.func227,by kernel_rfl,rfl⟩
theorem fn228:FnOk Tryz.prog 228:=⟨_,Tryz.func228,by kernel_rfl,rfl⟩
theorem fn229:FnOk Tryz.prog 229:=⟨_,Tryz.func229,by kernel_rfl,rfl⟩
theorem fn230:FnOk Tryz.prog 230:=⟨_,Tryz.func230,by kernel_rfl,rfl⟩
theorem fn63:FnOk Tryz.prog 63:=⟨_,Tryz.func63,by kernel_rfl,rfl⟩
theorem fn162:FnOk Tryz.prog 162:=⟨_,Tryz.func162,by kernel_rfl,rfl⟩
theorem fn62:FnOk Tryz.prog 62:=⟨_,Tryz.func62,by kernel_rfl,rfl⟩
theorem fn81:FnOk Tryz.prog 81:=⟨_,Tryz.func81,by kernel_rfl,rfl⟩
theorem fn84:FnOk Tryz.prog 84:=⟨_,Tryz.func84,by kernel_rfl,rfl⟩
theorem fn85:FnOk Tryz.prog 85:=⟨_,Tryz.func85,by kernel_rfl,rfl⟩
theorem fn86:FnOk Tryz.prog 86:=⟨_,Tryz.func86,by kernel_rfl,rfl⟩
theorem fn87:FnOk Tryz.prog 87:=⟨_,Tryz.func87,by kernel_rfl,rfl⟩
theorem z29_Z:ZeroOk Tryz.prog 29 kZ 0:=zeroOk_of info29 fun m=>zero_Z m
theorem fn121:FnOk Tryz.prog 121:=⟨_,Tryz.func121,by kernel_rfl,rfl⟩
theorem fn205:FnOk Tryz.prog 205:=⟨_,Tryz.func205,by kernel_rfl,rfl⟩
theorem fn206:FnOk Tryz.prog 206:=⟨_,Tryz.func206,by kernel_rfl,rfl⟩
theorem fn215:FnOk Tryz.prog 215:=⟨_,Tryz.func215,by kernel_rfl,rfl⟩
theorem fn258:FnOk Tryz.prog 258:=⟨_,Tryz.func258,by kernel_rfl,rfl⟩
theorem el23_val:ElOk Tryz.prog 23 kVal:=elOk_of info23 rfl rfl rfl
abbrev cg:=@el23_val
theorem fn133:FnOk Tryz.prog 133:=⟨_,Tryz.func133,by kernel_rfl,rfl⟩
theorem fn134:FnOk Tryz.prog 134:=⟨_,Tryz.func134,by kernel_rfl,rfl⟩
theorem fn219:FnOk Tryz.prog 219:=⟨_,Tryz.func219,by kernel_rfl,rfl⟩
theorem fn223:FnOk Tryz.prog 223:=⟨_,Tryz.func223,by kernel_rfl,rfl⟩
theorem fn268:FnOk Tryz.prog 268:=⟨_,Tryz.func268,by kernel_rfl,rfl⟩
theorem z23_val:ZeroOk Tryz.prog 23 kVal (.slice none 0 0):=zeroOk_of info23 fun m=>⟨rfl,rfl⟩
abbrev cA:=@z23_val
theorem fn216:FnOk Tryz.prog 216:=⟨_,Tryz.func216,by kernel_rfl,rfl⟩
theorem fn217:FnOk Tryz.prog 217:=⟨_,Tryz.func217,by kernel_rfl,rfl⟩
theorem fn222:FnOk Tryz.prog 222:=⟨_,Tryz.func222,by kernel_rfl,rfl⟩
theorem fn248:FnOk Tryz.prog 248:=⟨_,Tryz.func248,by kernel_rfl,rfl⟩
theorem fn135:FnOk Tryz.prog 135:=⟨_,Tryz.func135,by kernel_rfl,rfl⟩
theorem fn143:FnOk Tryz.prog 143:=⟨_,Tryz.func143,by kernel_rfl,rfl⟩
theorem fn218:FnOk Tryz.prog 218:=⟨_,Tryz.func218,by kernel_rfl,rfl⟩
theorem fn220:FnOk Tryz.prog 220:=⟨_,Tryz.func220,by kernel_rfl,rfl⟩
theorem fn221:FnOk Tryz.prog 221:=⟨_,Tryz.func221,by kernel_rfl,rfl⟩
theorem fn58:FnOk Tryz.prog 58:=⟨_,Tryz.func58,by kernel_rfl,rfl⟩
theorem fn68:FnOk Tryz.prog 68:=⟨_,Tryz.func68,by kernel_rfl,rfl⟩
theorem fn142:FnOk Tryz.prog 142:=⟨_,Tryz.func142,by kernel_rfl,rfl⟩
theorem fn144:FnOk Tryz.prog 144:=⟨_,Tryz.func144,by kernel_rfl,rfl⟩
theorem fn146:FnOk Tryz.prog 146:=⟨_,Tryz.func146,by kernel_rfl,rfl⟩
theorem fn147:FnOk Tryz.prog 147:=⟨_,Tryz.func147,by kernel_rfl,rfl⟩
theorem fn148:FnOk Tryz.prog 148:=⟨_,Tryz.func148,by kernel_rfl,rfl⟩
theorem fn149:FnOk Tryz.prog 149:=⟨_,Tryz.func149,by kernel_rfl,rfl⟩
theorem fn150:FnOk Tryz.prog 150:=⟨_,Tryz.func150,by kernel_rfl,rfl⟩
theorem fn151:FnOk Tryz.prog 151:=⟨_,Tryz.func151,by kernel_rfl,rfl⟩
theorem fn152:FnOk Tryz.prog 152:=⟨_,Tryz.func152,by kernel_rfl,rfl⟩
theorem fn224:FnOk Tryz.prog 224:=⟨_,Tryz.func224,by kernel_rfl,rfl⟩
theorem fn78:FnOk Tryz.prog 78:=⟨_,Tryz.func78,by kernel_rfl,rfl⟩
theorem fn79:FnOk Tryz.prog 79:=⟨_,Tryz.func79,by kernel_rfl,rfl⟩
theorem fn80:FnOk Tryz.prog 80:=⟨_,Tryz.func80,by kernel_rfl,rfl⟩
theorem fn225:FnOk Tryz.prog 225:=⟨_,Tryz.func225,by kernel_rfl,rfl⟩
theorem fn259:FnOk Tryz.prog 259:=⟨_,Tryz.func259,by kernel_rfl,rfl⟩
theorem fn226:FnOk Tryz.prog 226:=⟨_,Tryz.func226,by kernel_rfl,rfl⟩
theorem fn159:FnOk Tryz.prog 159:=⟨_,Tryz.func159,by kernel_rfl,rfl⟩
theorem fn160:FnOk Tryz.prog 160:=⟨_,Tryz.func160,by kernel_rfl,rfl⟩
theorem prt31_0:PartOk Tryz.prog 31 0 0 true 2:=⟨_,_,Tryz.underlying31,rfl,rfl,ty29⟩
theorem fn64:FnOk Tryz.prog 64:=⟨_,Tryz.func64,by kernel_rfl,rfl⟩
theorem fn90:FnOk Tryz.prog 90:=⟨_,Tryz.func90,by kernel_rfl,rfl⟩
theorem fn75:FnOk Tryz.prog 75:=⟨_,Tryz.func75,by kernel_rfl,rfl⟩
theorem fn89:FnOk Tryz.prog 89:=⟨_,Tryz.func89,by kernel_rfl,rfl⟩
theorem fn91:FnOk Tryz.prog 91:=⟨_,Tryz.func91,by kernel_rfl,rfl⟩
theorem fn154:FnOk Tryz.prog 154:=⟨_,Tryz.func154,by kernel_rfl,rfl⟩
theorem fn155:FnOk Tryz.prog 155:=⟨_,Tryz.func155,by kernel_rfl,rfl⟩
theorem fn156:FnOk Tryz.prog 156:=⟨_,Tryz.func156,by kernel_rfl,rfl⟩
theorem fn83:FnOk Tryz.prog 83:=⟨_,Tryz.func83,by kernel_rfl,rfl⟩
theorem fn163:FnOk Tryz.prog 163:=⟨_,Tryz.func163,by kernel_rfl,rfl⟩
theorem fn164:FnOk Tryz.prog 164:=⟨_,Tryz.func164,by kernel_rfl,rfl⟩
theorem fn165:FnOk Tryz.prog 165:=⟨_,Tryz.func165,by kernel_rfl,rfl⟩
theorem fn95:FnOk Tryz.prog 95:=⟨_,Tryz.func95,by kernel_rfl,rfl⟩
theorem fn25:FnOk Tryz.prog 25:=⟨_,Tryz.func25,by kernel_rfl,rfl⟩
theorem fn26:FnOk Tryz.prog 26:=⟨_,Tryz.func26,by kernel_rfl,rfl⟩
theorem fn27:FnOk Tryz.prog 27:=⟨_,Tryz.func27,by kernel_rfl,rfl⟩
theorem fn28:FnOk Tryz.prog 28:=⟨_,Tryz.func28,by kernel_rfl,rfl⟩
theorem fn29:FnOk Tryz.prog 29:=⟨_,Tryz.func29,by kernel_rfl,rfl⟩
theorem fn30:FnOk Tryz.prog 30:=⟨_,Tryz.func30,by kernel_rfl,rfl⟩
theorem fn31:FnOk Tryz.prog 31:=⟨_,Tryz.func31,by kernel_rfl,rfl⟩
theorem fn92:FnOk Tryz.prog 92:=⟨_,Tryz.func92,by kernel_rfl,rfl⟩
theorem fn93:FnOk Tryz.prog 93:=⟨_,Tryz.func93,by kernel_rfl,rfl⟩
theorem fn94:FnOk Tryz.prog 94:=⟨_,Tryz.func94,by kernel_rfl,rfl⟩
theorem fn96:FnOk Tryz.prog 96:=⟨_,Tryz.func96,by kernel_rfl,rfl⟩
theorem fn97:FnOk Tryz.prog 97:=⟨_,Tryz.func97,by kernel_rfl,rfl⟩
end Fw
namespace Fw
open Go Go.Proofs Go.ChangeShapes Go.WideShapes Go.RowKit
section
open Go.Proofs.YtjbfmocbophmlaaGreat.Rows (uptoBulk uptoBulkAll)
def snap (w:World):Mem:=fun g=>match w.heap[g]? with
  | some (.cells A _ _)=>some A.toList
  | _=>none
theorem snap_fits (w:World):Fits (snap w) w:=fun g c h=>by
  unfold snap at h
  split at h
  · rename_i A e f hA
    simp only [Option.some.injEq] at h
    subst h
    exact ⟨A,e,f,[],hA,by simp⟩
  · cases h
theorem snap_cell {w:World} {a:Addr} {v:Value} (h:w.cell? a=some v):a=⟨a.block,a.off,none⟩∧∃c,snap w a.block=some c∧c[a.off]?=some v:=by
  unfold World.cell? at h
  split at h
  · rename_i A e f hA
    split at h
    · cases h
    · rename_i hs
      refine ⟨?_,A.toList,by simp [snap,hA],by simpa using h⟩
      cases a with
      | mk b o s=>cases s <;> simp_all
  · cases h
theorem bulk_one {H:Type} (d:DataW H):1≤uptoBulk d:=by
  cases d with
  | lit l=>cases l <;> simp [uptoBulk]
  | nil=>simp [uptoBulk]
  | ptr d=>simp [uptoBulk]
  | slice elems spare=>simp [uptoBulk]
  | agg parts=>simp [uptoBulk]
  | iface t d=>simp [uptoBulk]
  | map entries=>simp [uptoBulk]
  | held h=>simp [uptoBulk]
theorem bulk_mem {H:Type} {d:DataW H} {l:List (DataW H)} (h:d∈l):uptoBulk d≤uptoBulkAll l:=by
  induction l with
  | nil=>cases h
  | cons x r ih=>
    simp only [uptoBulkAll]
    rcases List.mem_cons.1 h with e | e
    · subst e;omega
    · have:=ih e;omega
theorem bulk_len {H:Type} (l:List (DataW H)):l.length≤uptoBulkAll l:=by
  induction l with
  | nil=>simp [uptoBulkAll]
  | cons x r ih=>have:=bulk_one x;simp only [uptoBulkAll,List.length_cons];omega
abbrev uptoN:Nat:=1048576
def Rd (P:Program) (t:TypeId) {α:Type} (k:Kd α) (Q:α→Prop):Prop:=
  ∀{H:Type} (enc:TypeId×Value→H) (w:World) (fuel:Nat) (cs:List Value) (d:DataW H) (ps:List MemPlace),DataW.trod enc P w 0 (fun _=>true) true fuel t cs=some (d,ps)→uptoBulk d≤uptoN→∃x,k.at' (snap w) cs x∧Q x
section
variable {P:Program} {t e:TypeId}
theorem rd_limb (hu:P.underlying t=some (.int .u32)):Rd P t kLimb (fun _=>True):=fun enc w fuel cs d ps hd hb=>by
  obtain ⟨n,h1,h2,h3⟩:=DataW.trod_int hu hd
  have:0≤n∧n≤4294967295:=by simpa [Lit.wf,IntKind.min,IntKind.max,IntKind.signed,IntKind.bits] using h3
  refine ⟨n.toNat,⟨by rw [h1];congr 2;omega,by omega⟩,trivial⟩
theorem rd_bool (hu:P.underlying t=some .bool):Rd P t kBool (fun _=>True):=fun enc w fuel cs d ps hd hb=>by
  obtain ⟨b,h1,h2⟩:=DataW.trod_bool hu hd
  exact ⟨b,h1,trivial⟩
theorem rd_sl {α:Type} {k:Kd α} {Q:α→Prop} (hu:P.underlying t=some (.slice e)) (hc:P.cellsOf e=k.sz) (h0:0<k.sz) (h:Rd P e k Q):Rd P t (kSl k) (fun xs=>xs.length≤uptoN∧∀x∈xs,Q x):=fun enc w fuel cs d ps hd hb=>by
  rcases DataW.trod_slice hu hd with ⟨rfl,hx⟩ | ⟨a,len,cap,elems,rest,n,rfl,rfl,hx,_,hl,hm,hlen,hel,_⟩
  · exact ⟨[],⟨none,0,rfl,by simp,by simp,.inl rfl⟩,by simp,by simp⟩
  · simp only [Prod.mk.injEq] at hx
    obtain ⟨rfl,_⟩:=hx
    simp only [uptoBulk] at hb
    have hbl:=bulk_len (elems.map (·.1))
    simp only [List.length_map] at hbl
    by_cases h00:len=0
    · subst h00
      exact ⟨[],⟨some a,cap,rfl,by simp,by simp,.inl rfl⟩,by simp,by simp⟩
    -- the cells of element i
    have hcell:∀i,i<len→∃ci,ci.length=k.sz∧(∀j,j<k.sz→w.cell? (a.add (i*k.sz+j))=ci[j]?)∧∃x,k.at' (snap w) ci x∧Q x:=by
      intro i hi
      have h1:=hel i hi
      rw [hc] at h1
      have hlt:i<elems.length:=by omega
      rw [List.getElem?_eq_getElem hlt,Option.bind_eq_some_iff] at h1
      obtain ⟨ci,h2,h3⟩:=h1
      obtain ⟨_,h4,h5⟩:=World.cells?_some h2
      obtain ⟨x,h6,h7⟩:=h enc w n ci elems[i].1 elems[i].2 h3 (by
        have:=bulk_mem (H:=_) (d:=elems[i].1) (l:=elems.map (·.1)) (List.mem_map.2 ⟨_,List.getElem_mem hlt,rfl⟩)
        omega)
      refine ⟨ci,h4,fun j hj=>?_,x,h6,h7⟩
      rw [←h5 j hj,Addr.add_add]
    obtain ⟨c0,l0,e0,x0,_⟩:=hcell 0 (by omega)
    have hv0:∃v,c0[0]?=some v:=⟨c0[0],List.getElem?_eq_getElem (by omega)⟩
    obtain ⟨v0,hv0⟩:=hv0
    have h00:=e0 0 h0
    rw [hv0] at h00
    have ha:a=⟨a.block,a.off,none⟩:=by
      have h01:=(snap_cell h00).1
      cases a with
      | mk b o s=>
        cases s with
        | none=>rfl
        | some s=>simp [Addr.add] at h01
    obtain ⟨c,hc1,_⟩:=(snap_cell h00).2
    rw [ha] at hc1 hcell ⊢
    simp only [Addr.add_lit] at hc1 hcell
    have hget:∀o v,w.cell? ⟨a.block,o,none⟩=some v→c[o]?=some v:=by
      intro o v hv
      obtain ⟨_,c',h1,h2⟩:=snap_cell hv
      simp only at h1 h2
      rw [hc1] at h1
      cases h1
      exact h2
    have key:∀m,m≤len→a.off+m*k.sz≤c.length∧∃xs:List α,xs.length=m∧Rows k (snap w) ((c.drop a.off).take (m*k.sz)) xs∧∀x∈xs,Q x:=by
      intro m
      induction m with
      | zero=>
        intro _
        obtain ⟨ci,l1,l2,_⟩:=hcell 0 (by omega)
        have:=hget _ _ ((l2 0 h0).trans (List.getElem?_eq_getElem (by omega)))
        have:=(List.getElem?_eq_some_iff.1 this).1
        exact ⟨by omega,[],rfl,by simp [Rows],by simp⟩
      | succ m ih=>
        intro hm1
        obtain ⟨ih0,xs,ih1,ih2,ih3⟩:=ih (by omega)
        obtain ⟨ci,l1,l2,x,l3,l4⟩:=hcell m (by omega)
        have hci:∀j,j<k.sz→c[a.off+(m*k.sz+j)]?=ci[j]?:=by
          intro j hj
          have h1:=l2 j hj
          rw [List.getElem?_eq_getElem (show j<ci.length by omega)] at h1 ⊢
          exact hget _ _ h1
        have hlen':a.off+(m+1)*k.sz≤c.length:=by
          have h1:=hci (k.sz-1) (by omega)
          rw [List.getElem?_eq_getElem (show k.sz-1<ci.length by omega)] at h1
          have:=(List.getElem?_eq_some_iff.1 h1).1
          rw [Nat.succ_mul]
          omega
        have hseg:(c.drop (a.off+m*k.sz)).take k.sz=ci:=by
          apply List.ext_getElem?
          intro j
          by_cases hj:j<k.sz
          · rw [List.getElem?_take_of_lt hj,List.getElem?_drop,←hci j hj,Nat.add_assoc]
          · rw [List.getElem?_eq_none (by simp;omega),List.getElem?_eq_none (by omega)]
        have hspl:(c.drop a.off).take ((m+1)*k.sz)=(c.drop a.off).take (m*k.sz)++ci:=by
          rw [Nat.succ_mul,List.take_add,List.drop_drop,hseg]
        refine ⟨hlen',xs++[x],by simp [ih1],by rw [hspl];exact ih2.append (Rows.one l3),?_⟩
        intro y hy
        rcases List.mem_append.1 hy with hy | hy
        · exact ih3 y hy
        · simp at hy;subst hy;exact l4
    obtain ⟨k0,xs,k1,k2,k3⟩:=key len (Nat.le_refl _)
    refine ⟨xs,⟨some ⟨a.block,a.off,none⟩,cap,by rw [k1],by unfold uptoN at hb;omega,by omega,.inr ⟨a.block,a.off,c,_,rfl,hc1,⟨c.take a.off,(c.drop a.off).drop (len*k.sz),?_,by simp;omega⟩,k2⟩⟩,by unfold uptoN at hb ⊢;omega,k3⟩
    rw [List.append_assoc,List.take_append_drop,List.take_append_drop]
def RdF (P:Program) (fs:List Field) (off:Nat) {α:Type} (k:Kd α) (Q:α→Prop):Prop:=
  ∀{H:Type} (enc:TypeId×Value→H) (w:World) (n:Nat) (cs:List Value) (xs:List (DataW H×List MemPlace)),xs.length=fs.length →
    (∀(i:Nat) (f:Field),fs[i]?=some f→DataW.trod enc P w 0 (fun _=>true) true n f.type ((cs.drop f.offset).take (P.cellsOf f.type))=xs[i]?)→uptoBulkAll (xs.map (·.1))≤uptoN→off+k.sz=cs.length→∃x,k.at' (snap w) (cs.drop off) x∧Q x
theorem rdf_last {α:Type} {k:Kd α} {Q:α→Prop} {f:Field} {off:Nat} (ho:f.offset=off) (hc:P.cellsOf f.type=k.sz) (h:Rd P f.type k Q):RdF P [f] off k Q:=fun enc w n cs xs hl hx hb hlen=>by
  match xs,hl with
  | [y],_=>
    have h1:=hx 0 f rfl
    rw [ho,hc,List.take_of_length_le (by simp;omega)] at h1
    exact h enc w n _ y.1 y.2 h1 (by simp [uptoBulkAll] at hb;omega)
theorem rdf_cons {α β:Type} {k:Kd α} {l:Kd β} {Q:α→Prop} {R:β→Prop} {f:Field} {fs:List Field} {off off':Nat} (ho:f.offset=off) (hc:P.cellsOf f.type=k.sz) (h:Rd P f.type k Q) (ho':off+k.sz=off') (hr:RdF P fs off' l R):RdF P (f::fs) off (kPair k l) (fun x=>Q x.1∧R x.2):=fun enc w n cs xs hl hx hb hlen=>by
  match xs,hl with
  | y::ys,hl=>
    simp only [List.map_cons,uptoBulkAll] at hb
    have hlen':off+(k.sz+l.sz)=cs.length:=hlen
    have h1:=hx 0 f rfl
    rw [ho,hc] at h1
    obtain ⟨x,h2,h3⟩:=h enc w n _ y.1 y.2 h1 (by omega)
    obtain ⟨z,h4,h5⟩:=hr enc w n cs ys (by simpa using hl) (fun i g hg=>by simpa using hx (i+1) g (by simpa using hg)) (by omega) (by omega)
    refine ⟨(x,z),⟨_,_,?_,h2,h4⟩,h3,h5⟩
    rw [←ho',←List.drop_drop,List.take_append_drop]
theorem rd_struct {α:Type} {k:Kd α} {Q:α→Prop} {fs:List Field} (hu:P.underlying t=some (.struct fs.toArray)) (hc:P.cellsOf t=k.sz) (h:RdF P fs 0 k Q):Rd P t k Q:=fun enc w fuel cs d ps hd hb=>by
  obtain ⟨xs,n,_,hx,hl,hlen,hf⟩:=DataW.trod_struct hu hd
  simp only [Prod.mk.injEq] at hx
  obtain ⟨rfl,_⟩:=hx
  simp only [uptoBulk] at hb
  have:=h enc w n cs xs (by simpa using hlen) (fun i f hi=>hf i f (by simpa using hi)) (by omega) (by omega)
  simpa using this
def ZB (z:Int):Prop:=z.natAbs<4294967296^uptoN
theorem rd_Z (h:Rd P t kI (fun x=>True∧x.2.length≤uptoN∧∀y∈x.2,True)):Rd P t kZ ZB:=fun enc w fuel cs d ps hd hb=>by
  obtain ⟨x,h1,_,h2,_⟩:=h enc w fuel cs d ps hd hb
  have hl:Lims x.2:=by
    obtain ⟨a,b,_,_,_,_,_,_,_,h3⟩:=h1
    rcases h3 with h3 | ⟨_,_,_,_,_,_,_,r⟩
    · intro y hy;rw [h3] at hy;cases hy
    · exact rows_lims r
  have hv:(ival x).natAbs=nval x.2:=by
    unfold ival;split <;> simp
  refine ⟨ival x,⟨x,h1,rfl,by unfold uptoN at h2;omega⟩,?_⟩
  unfold ZB
  rw [hv]
  exact Nat.lt_of_lt_of_le (nval_lt hl) (Nat.pow_le_pow_right (by omega) h2)
theorem arg_sl {α:Type} {k:Kd α} {Q:List α→Prop} (hu:P.underlying t=some (.slice e)) (h:Rd P t (kSl k) Q) {H:Type} {enc:TypeId×Value→H} {w:World} {base:Nat} {v:Value} {d:DataW H} {ps:List MemPlace} (hval:Value.okWide P w .any base t v) (hd:DataW.Trod enc P w 0 (fun _=>true) true t v d ps) (hb:uptoBulk d≤uptoN):∃x,((kSl k).is x).p (snap w) v∧Q x:=by
  obtain ⟨fuel,hd⟩:=hd
  obtain ⟨x,h1,h2⟩:=h enc w fuel _ d ps hd hb
  refine ⟨x,⟨_,?_,h1⟩,h2⟩
  obtain ⟨a,cap,h3,_⟩:=h1
  cases v with
  | slice a n c=>rfl
  | agg cs=>simp [Value.okWide,hu,Cell.okWide,Cell.ok] at hval
  | _=>simp [Value.cells] at h3
theorem below_all {H:Type} {enc:TypeId×Value→H} (hl:laidOutB P=true) {W W':World} (hb:Below W.heap.size W W'):∀{ts:List TypeId} {vs:List Value} {ds:List (DataW H)} {ps:List MemPlace},ts.all (fun t=>P.readableRec t&&decide (t<P.types.size))=true→DataW.TrodAll enc P W 0 (fun _=>true) true ts vs ds ps→(∀x∈ps,x.block<W.heap.size)→DataW.TrodAll enc P W' 0 (fun b=>decide (b<W.heap.size)) true ts vs ds ps
  | [],[],[],_,_,h,_=>h
  | t::ts,v::vs,d::ds,_,hr,⟨p,q,h1,h2,rfl⟩,hlt=>by
    simp only [List.all_cons,Bool.and_eq_true,decide_eq_true_eq] at hr
    exact ⟨p,q,Below.trod hl hr.1.1 hr.1.2 h1 hb (fun x hx=>hlt x (List.mem_append.2 (.inl hx))),below_all hl hb (by simpa using hr.2) h2 (fun x hx=>hlt x (List.mem_append.2 (.inr hx))),rfl⟩
theorem Fn.calls {f:FuncId} {pre:List VP} {b:Bool} (h:Fn P f pre (kBool.is b)) {W:World} {vs:List Value} (ha:Args (snap W) vs pre):Calls P f vs.toArray W fun e W'=>e = .returned (.bool b)∧Below W.heap.size W W':=by
  refine (h (snap W) W vs (snap_fits W) ha ⟨fun b hb=>(by cases hb),List.Pairwise.nil⟩).mono ?_
  rintro e w' ⟨m',v,p,Lo,rfl,s,hp,rfl,rfl⟩
  obtain ⟨cs,rfl,rfl⟩:=hp
  exact ⟨rfl,s.grow.below⟩
end
theorem ZB_gen {z:Int} {k:Nat} (h:z.natAbs<4294967296^k):z.natAbs<2^(32*k):=by
  rw [show (4294967296:Nat)=2^32 from rfl,←Nat.pow_mul] at h
  exact h
theorem ZB_lt {z:Int} (h:ZB z):∃n,n≤33554432∧z.natAbs<2^n:=⟨32*uptoN,by unfold uptoN;omega,ZB_gen h⟩
end
end Fw
namespace Fw
section
def cmpI (x y:Nat):Int:=if x<y then -1 else if y<x then 1 else 0
theorem take_take1 {l:List Nat} {i:Nat} (hi:i≤l.length):(l.take i).take (i-1)=l.take (i-1):=by
  rw [List.take_take,Nat.min_eq_left (by omega)]
theorem take_succ' {l:List Nat} {i:Nat} (hi:i<l.length):l.take (i+1)=l.take i++[l.getD i 0]:=by
  rw [List.take_add_one,List.getElem?_eq_getElem hi]
  simp [List.getElem?_eq_getElem hi]
theorem take_pred {l:List Nat} {i:Nat} (hi:i≤l.length) (h0:0<i):l.take i=l.take (i-1)++[l.getD (i-1) 0]:=by
  obtain ⟨j,rfl⟩:∃j,i=j+1:=⟨i-1,by omega⟩
  exact take_succ' (by omega)
theorem getD_take {l:List Nat} {i j:Nat} (h:j<i):(l.take i).getD j 0=l.getD j 0:=by
  simp [List.getElem?_take,h]
theorem getD_lt {l:List Nat} (hl:Lims l) (i:Nat):l.getD i 0<4294967296:=by
  rw [List.getD_eq_getElem?_getD]
  cases h:l[i]? with
  | none=>simp
  | some x=>exact hl x (List.mem_of_getElem? h)
theorem Lims.take {l:List Nat} (h:Lims l) (i:Nat):Lims (l.take i):=fun x hx=>h x (List.mem_of_mem_take hx)
theorem Lims.drop {l:List Nat} (h:Lims l) (i:Nat):Lims (l.drop i):=fun x hx=>h x (List.mem_of_mem_drop hx)
theorem trim_down {l:List Nat} {i:Nat} (hi:i≤l.length) (h0:0<i) (h:((l.take i).getD (i-1) 0:Int)=0):nval (l.take (i-1))=nval (l.take i):=by
  rw [getD_take (by omega)] at h
  rw [take_pred hi h0,nval_append,nval,nval,show l.getD (i-1) 0=0 from by omega]
  simp
abbrev fh:=@trim_down
theorem trim_stop {l:List Nat} {i:Nat} (hl:Lims l) (hi:i≤l.length) (h0:0<i) (h:¬((l.take i).getD (i-1) 0:Int)=0) (hr:nval (l.take i)=nval l):l.take i=limbs (nval l):=by
  rw [getD_take (by omega)] at h
  rw [←hr]
  exact (limbs_nval (hl.take i) (.inr ⟨_,_,take_pred hi h0,by omega⟩)).symm
theorem trim_stop0 {l:List Nat} {i:Nat} (hr:nval (l.take i)=nval l) (h0:i=0):l.take i=limbs (nval l):=by
  subst h0
  rw [←hr]
  simp [nval,limbs_zero]
theorem limbs_last {n:Nat} (h:n≠0):4294967296^((limbs n).length-1)≤n:=by
  induction n using Nat.strongRecOn with
  | _ n ih=>
    rw [limbs_pos h]
    simp only [List.length_cons,Nat.add_sub_cancel]
    by_cases h1:n/4294967296=0
    · rw [h1,limbs_zero];simp;omega
    · have:=ih (n/4294967296) (by omega) h1
      have hl:(limbs (n/4294967296)).length=(limbs (n/4294967296)).length-1+1:=by
        rw [limbs_pos h1];simp
      rw [hl,Nat.pow_succ]
      have:=Nat.mul_le_mul_right 4294967296 this
      omega
theorem lt_limbs (n:Nat):n<4294967296^(limbs n).length:=by
  have:=nval_lt (limbs_lims n)
  rwa [nval_limbs] at this
theorem limbs_mono {a b:Nat} (h:a≤b):(limbs a).length≤(limbs b).length:=limbs_len_lt (Nat.lt_of_le_of_lt h (lt_limbs b))
theorem cmp_len_lt {a b:Nat} (h:(limbs a).length<(limbs b).length):(-1)=cmpI a b:=by
  have:a<b:=by
    rcases Nat.lt_or_ge a b with h1 | h1
    · exact h1
    · have:=limbs_mono h1;omega
  simp [cmpI,this]
theorem cmp_len_gt {a b:Nat} (h:(limbs b).length<(limbs a).length):1=cmpI a b:=by
  have:b<a:=by
    rcases Nat.lt_or_ge b a with h1 | h1
    · exact h1
    · have:=limbs_mono h1;omega
  simp [cmpI,this,Nat.lt_asymm this]
theorem cmp_drop {a b:List Nat} (h:a.length=b.length):a.drop a.length=b.drop a.length:=by
  rw [List.drop_length,h,List.drop_length]
theorem split_at {l:List Nat} {i:Nat} (hi:i≤l.length) (h0:0<i):nval l=nval (l.take (i-1))+4294967296^(i-1)*(l.getD (i-1) 0+4294967296*nval (l.drop i)):=by
  conv=>lhs;rw [←List.take_append_drop (i-1) l,nval_append]
  rw [List.length_take,Nat.min_eq_left (by omega),List.drop_eq_getElem_cons (by omega),nval]
  have e:l.getD (i-1) 0=l[i-1]:=by
    rw [List.getD_eq_getElem?_getD,List.getElem?_eq_getElem (by omega)];rfl
  rw [e,show i-1+1=i from by omega]
theorem cmp_lt_core {a b:List Nat} {i:Nat} (hi:i≤a.length) (hl:a.length=b.length) (h0:0<i) (hd:a.drop i=b.drop i) (la:Lims a) (h:a.getD (i-1) 0<b.getD (i-1) 0):nval a<nval b:=by
  rw [split_at hi h0,split_at (l:=b) (by omega) h0,hd]
  have h1:=nval_lt (la.take (i-1))
  rw [List.length_take,Nat.min_eq_left (by omega)] at h1
  have h2:4294967296^(i-1)*(a.getD (i-1) 0+4294967296*nval (b.drop i)+1)≤4294967296^(i-1)*(b.getD (i-1) 0+4294967296*nval (b.drop i)):=Nat.mul_le_mul_left _ (by omega)
  rw [Nat.mul_add,Nat.mul_one] at h2
  omega
theorem cmp_at_lt {a b i:Nat} (hi:i≤(limbs a).length) (hl:(limbs a).length=(limbs b).length) (hd:(limbs a).drop i=(limbs b).drop i) (h:0<i∧(limbs a).getD (i-1) 0<(limbs b).getD (i-1) 0):(-1)=cmpI a b:=by
  have:=cmp_lt_core hi hl h.1 hd (limbs_lims a) h.2
  rw [nval_limbs,nval_limbs] at this
  simp [cmpI,this]
theorem cmp_at_gt {a b i:Nat} (hi:i≤(limbs a).length) (hl:(limbs a).length=(limbs b).length) (hd:(limbs a).drop i=(limbs b).drop i) (h0:0<i) (h:(limbs b).getD (i-1) 0<(limbs a).getD (i-1) 0):1=cmpI a b:=by
  have:=cmp_lt_core (a:=limbs b) (b:=limbs a) (by omega) hl.symm h0 hd.symm (limbs_lims b) h
  rw [nval_limbs,nval_limbs] at this
  simp [cmpI,this,Nat.lt_asymm this]
theorem cmp_at_eq {a b i:Nat} (h0:i=0) (hd:(limbs a).drop i=(limbs b).drop i):0=cmpI a b:=by
  subst h0
  simp only [List.drop_zero] at hd
  have:=congrArg nval hd
  rw [nval_limbs,nval_limbs] at this
  simp [cmpI,this]
theorem cmp_down {a b:List Nat} {i:Nat} (hl:a.length=b.length) (hi:i≤a.length) (h0:0<i) (hd:a.drop i=b.drop i) (h:a.getD (i-1) 0=b.getD (i-1) 0):a.drop (i-1)=b.drop (i-1):=by
  have e:∀l:List Nat,i≤l.length→l.drop (i-1)=l.getD (i-1) 0::l.drop i:=by
    intro l hl
    rw [List.drop_eq_getElem_cons (by omega),List.getD_eq_getElem?_getD,List.getElem?_eq_getElem (by omega),show i-1+1=i from by omega]
    rfl
  rw [e a hi,e b (by omega),hd,h]
open Go (IntKind)
theorem wr32 {n:Int} {s:Nat} (h:n=s):IntKind.u32.wrap n=((s%4294967296:Nat):Int):=by
  subst h;simp [IntKind.wrap,IntKind.signed,IntKind.bits]
abbrev dg:=@wr32
theorem wr64 {n:Int} {s:Nat} (h:n=s):IntKind.u64.wrap n=((s%18446744073709551616:Nat):Int):=by
  subst h;simp [IntKind.wrap,IntKind.signed,IntKind.bits]
theorem wrs32 {n:Int} {s:Nat} (h:n=s∧s<4294967296):IntKind.u32.wrap n=(s:Int):=by
  rw [wr32 h.1,Nat.mod_eq_of_lt h.2]
abbrev cN:=@wrs32
theorem wr8 {n:Int} {s:Nat} (h:n=s∧s<256):IntKind.u8.wrap n=(s:Int):=by
  obtain ⟨rfl,h⟩:=h
  simp [IntKind.wrap,IntKind.signed,IntKind.bits];omega
theorem shrN (j:Nat) {n b:Int} {s w:Nat} (h:n=s) (hb:b=j) (hj:j≤w):n.fdiv (2^(min b.toNat w))=((s/2^j:Nat):Int):=by
  subst h hb
  rw [Int.toNat_natCast,Nat.min_eq_left hj,Int.fdiv_eq_ediv_of_nonneg _ (by have:=Int.pow_nonneg (n:=2) (m:=j) (by omega:(0:Int)≤2);exact this)]
  norm_cast
abbrev cQ:=@shrN
theorem shlN (j:Nat) {n b:Int} {s:Nat} (h:n=s) (hb:b=j) (hj:j≤64) (hs:s*2^j<18446744073709551616):IntKind.u64.wrap (n*2^(min b.toNat IntKind.u64.bits))=((s*2^j:Nat):Int):=by
  subst h hb
  show IntKind.u64.wrap (_*2^(min _ 64))=_
  rw [Int.toNat_natCast,Nat.min_eq_left hj,wr64 (s:=s*2^j) (by norm_cast),Nat.mod_eq_of_lt hs]
theorem orN (j:Nat) {a b:Int} {s t:Nat} (ha:a=((s*2^j:Nat):Int)) (hb:b=t) (ht:t<2^j) (hs:s*2^j+t<18446744073709551616):IntKind.u64.wrap ((BitVec.ofInt IntKind.u64.bits a ||| BitVec.ofInt IntKind.u64.bits b).toNat)=((s*2^j+t:Nat):Int):=by
  subst ha hb
  have h1:(BitVec.ofInt IntKind.u64.bits ((s*2^j:Nat):Int)).toNat=s*2^j:=by
    rw [BitVec.ofInt_natCast,BitVec.toNat_ofNat]
    exact Nat.mod_eq_of_lt (Nat.lt_of_le_of_lt (Nat.le_add_right _ t) hs)
  have h2:(BitVec.ofInt IntKind.u64.bits (t:Int)).toNat=t:=by
    rw [BitVec.ofInt_natCast,BitVec.toNat_ofNat]
    exact Nat.mod_eq_of_lt (Nat.lt_of_le_of_lt (Nat.le_add_left t _) hs)
  rw [BitVec.toNat_or,h1,h2,Nat.mul_comm s,←Nat.two_pow_add_eq_or_of_lt ht,Nat.mul_comm,wr64 rfl,Nat.mod_eq_of_lt hs]
def bitlen (n:Nat):Nat:=if n=0 then 0 else n.log2+1
theorem bitlen_eq {n k:Nat} (h1:2^k≤n) (h2:n<2^(k+1)):bitlen n=k+1:=by
  have h0:n≠0:=by
    intro h;subst h
    have:=Nat.two_pow_pos k;omega
  have h3:n.log2<k+1:=(Nat.log2_lt h0).2 h2
  have h4:¬n.log2<k:=fun h=>by
    have:=(Nat.log2_lt h0).1 h;omega
  simp [bitlen,h0];omega
theorem bitlen_spec {n:Nat} (h:n≠0):∃k,bitlen n=k+1∧2^k≤n∧n<2^(k+1):=
  ⟨n.log2,by simp [bitlen,h],Nat.log2_self_le h,Nat.lt_log2_self⟩
theorem bitlen_shift {n:Nat} (j:Nat) (h:2^j≤n):bitlen n=j+bitlen (n/2^j):=by
  have hp:=Nat.two_pow_pos j
  have h0:n/2^j≠0:=by
    have:=Nat.div_pos h hp;omega
  obtain ⟨k,h1,h2,h3⟩:=bitlen_spec h0
  rw [h1]
  have h4:2^(j+k)≤n:=by
    rw [Nat.pow_add,Nat.mul_comm]
    exact (Nat.le_div_iff_mul_le hp).1 h2
  have h5:n<2^(j+k+1):=by
    rw [Nat.add_assoc,Nat.pow_add,Nat.mul_comm]
    exact (Nat.div_lt_iff_lt_mul hp).1 h3
  rw [bitlen_eq h4 h5];omega
theorem bitlen_le {n k:Nat} (h:n<2^k):bitlen n≤k:=by
  by_cases h0:n=0
  · subst h0;simp [bitlen]
  · have:=(Nat.log2_lt h0).2 h
    simp [bitlen,h0];omega
theorem lt_bitlen (n:Nat):n<2^bitlen n:=by
  by_cases h0:n=0
  · subst h0;simp [bitlen]
  · simp [bitlen,h0];exact Nat.lt_log2_self
theorem len8:([0,1,2,2,3,3,3,3,4,4,4,4,4,4,4,4]++List.replicate 16 5++List.replicate 32 6++List.replicate 64 7++List.replicate 128 8:List Nat)=(List.range 256).map bitlen:=by decide +kernel
theorem bits_limbs {n:Nat} (h:n≠0):bitlen n=32*((limbs n).length-1)+bitlen ((limbs n).getD ((limbs n).length-1) 0):=by
  have h1:0<(limbs n).length:=by rw [limbs_pos h];simp
  have h2:=split_at (l:=limbs n) (Nat.le_refl _) h1
  rw [List.drop_length,nval_limbs,nval,Nat.mul_zero,Nat.add_zero] at h2
  have h3:=nval_lt ((limbs_lims n).take ((limbs n).length-1))
  rw [List.length_take,Nat.min_eq_left (by omega)] at h3
  have h4:=limbs_last h
  have e:(4294967296:Nat)^((limbs n).length-1)=2^(32*((limbs n).length-1)):=by
    rw [show (4294967296:Nat)=2^32 from rfl,←Nat.pow_mul]
  rw [e] at h2 h3 h4
  rw [bitlen_shift _ h4]
  congr 2
  have hp:=Nat.two_pow_pos (32*((limbs n).length-1))
  generalize (limbs n).length-1=q at h2 h3 hp ⊢
  generalize nval ((limbs n).take q)=u at h2 h3
  generalize (limbs n).getD q 0=v at h2 ⊢
  rw [h2,Nat.add_mul_div_left _ _ hp,Nat.div_eq_of_lt h3,Nat.zero_add]
def fil (n:Nat) (r:List Nat):List Nat:=r++List.replicate (n-r.length) 0
theorem fil_nil (n:Nat):List.replicate n 0=fil n []:=by simp [fil]
theorem fil_len {n:Nat} {r:List Nat} (h:r.length≤n):(fil n r).length=n:=by simp [fil];omega
theorem fil_set {n:Nat} {r:List Nat} {d:Nat} (h:r.length<n):(fil n r).set r.length d=fil n (r++[d]):=by
  obtain ⟨k,hk⟩:∃k,n-r.length=k+1:=⟨n-r.length-1,by omega⟩
  have h2:n-(r++[d]).length=k:=by simp;omega
  simp only [fil,hk,h2,List.replicate_succ,List.append_assoc]
  rw [List.set_append_right _ _ (by omega)]
  simp
abbrev eI:=@fil_set
theorem fil_full {n:Nat} {r:List Nat} (h:r.length=n):fil n r=r:=by simp [fil,h]
theorem fil_set_end {n:Nat} {r:List Nat} {d:Nat} (h:n=r.length+1):(fil n r).set r.length d=r++[d]:=by
  rw [fil_set (by omega),fil_full (by simp [h])]
theorem nval_concat (r:List Nat) (d:Nat):nval (r++[d])=nval r+4294967296^r.length*d:=by
  rw [nval_append];simp [nval]
theorem Lims.concat {r:List Nat} {d:Nat} (h:Lims r) (hd:d<4294967296):Lims (r++[d]):=fun x hx=>by
  rcases List.mem_append.1 hx with hx | hx
  · exact h x hx
  · simp at hx;omega
theorem nval_take_succ (l:List Nat) (i:Nat):nval (l.take (i+1))=nval (l.take i)+4294967296^i*l.getD i 0:=by
  by_cases h:i<l.length
  · rw [take_succ' h,nval_concat,List.length_take,Nat.min_eq_left (by omega)]
  · rw [List.take_of_length_le (by omega),List.take_of_length_le (by omega),List.getD_eq_getElem?_getD,List.getElem?_eq_none (by omega)]
    simp
theorem getD_out {l:List Nat} {i:Nat} (h:l.length≤i):l.getD i 0=0:=by
  rw [List.getD_eq_getElem?_getD,List.getElem?_eq_none h];rfl
def AddR (x y r:List Nat) (c:Nat):Prop:=Lims r∧c≤1∧nval r+4294967296^r.length*c=nval (x.take r.length)+nval (y.take r.length)
theorem addR_0 (x y:List Nat):AddR x y [] 0:=⟨fun x h=>(by cases h),by omega,by simp [nval]⟩
theorem addR_s {x y r:List Nat} {c:Nat} (hx:Lims x) (hy:Lims y) (h:AddR x y r c):AddR x y (r++[(c+x.getD r.length 0+y.getD r.length 0)%4294967296]) ((c+x.getD r.length 0+y.getD r.length 0)/4294967296):=by
  obtain ⟨h1,h2,h3⟩:=h
  have a1:=getD_lt hx r.length
  have a2:=getD_lt hy r.length
  refine ⟨h1.concat (by omega),by omega,?_⟩
  rw [List.length_append,List.length_singleton,nval_take_succ,nval_take_succ,nval_concat]
  generalize hs:c+x.getD r.length 0+y.getD r.length 0=s
  rw [Nat.pow_succ,Nat.mul_assoc,Nat.add_assoc,←Nat.mul_add,Nat.add_comm (s%4294967296),Nat.div_add_mod,←hs,Nat.mul_add,Nat.mul_add]
  omega
theorem addR_end {x y r:List Nat} {c:Nat} (h:AddR x y r c) (hr:r.length=x.length) (hy:y.length≤x.length):nval (r++[c])=nval x+nval y:=by
  obtain ⟨h1,h2,h3⟩:=h
  rw [nval_concat,h3,hr,List.take_length,List.take_of_length_le hy]
def LessR (x y r:List Nat) (c:Nat):Prop:=Lims r∧c≤1∧nval r+nval (y.take r.length)=nval (x.take r.length)+4294967296^r.length*c
def lessV (c x y:Nat):Nat:=if x<c+y then x+18446744073709551616-c-y else x-c-y
theorem lessR_0 (x y:List Nat):LessR x y [] 0:=⟨fun x h=>(by cases h),by omega,by simp [nval]⟩
theorem lessR_s {x y r:List Nat} {c:Nat} (hx:Lims x) (hy:Lims y) (h:LessR x y r c):LessR x y (r++[lessV c (x.getD r.length 0) (y.getD r.length 0)%4294967296]) (lessV c (x.getD r.length 0) (y.getD r.length 0)/2^63):=by
  obtain ⟨h1,h2,h3⟩:=h
  have a1:=getD_lt hx r.length
  have a2:=getD_lt hy r.length
  have hv:lessV c (x.getD r.length 0) (y.getD r.length 0)%4294967296+(c+y.getD r.length 0)=x.getD r.length 0+4294967296*(lessV c (x.getD r.length 0) (y.getD r.length 0)/2^63)∧lessV c (x.getD r.length 0) (y.getD r.length 0)/2^63≤1:=by
    unfold lessV;split <;> omega
  generalize lessV c (x.getD r.length 0) (y.getD r.length 0)=v at hv ⊢
  obtain ⟨hv,hv1⟩:=hv
  refine ⟨h1.concat (by omega),hv1,?_⟩
  rw [List.length_append,List.length_singleton,nval_take_succ,nval_take_succ,nval_concat,Nat.pow_succ,Nat.mul_assoc]
  have:=congrArg (4294967296^r.length*·) hv
  simp only [Nat.mul_add] at this
  omega
theorem lessR_end {x y r:List Nat} {c:Nat} (h:LessR x y r c) (hr:r.length=x.length) (hy:y.length≤x.length) (hle:nval y≤nval x):nval r=nval x-nval y:=by
  obtain ⟨h1,h2,h3⟩:=h
  have h4:=nval_lt h1
  rw [hr,List.take_length,List.take_of_length_le hy] at h3
  rw [hr] at h4
  have:c=0:=by
    rcases Nat.lt_or_ge c 1 with h | h
    · omega
    · have hc:c=1:=by omega
      subst hc
      omega
  subst this
  omega
theorem less_sub1 {c x:Nat} (hc:c≤1) (hx:x<4294967296):IntKind.u64.wrap ((x:Int)-(c:Int))=((lessV c x 0:Nat):Int):=by
  unfold lessV
  simp [IntKind.wrap,IntKind.signed,IntKind.bits]
  split <;> omega
theorem less_sub2 {c x y:Nat} (hc:c≤1) (hx:x<4294967296) (hy:y<4294967296):IntKind.u64.wrap (((lessV c x 0:Nat):Int)-(y:Int))=((lessV c x y:Nat):Int):=by
  unfold lessV
  simp [IntKind.wrap,IntKind.signed,IntKind.bits]
  split <;> split <;> omega
theorem bitlen0 {n:Nat} (h:(limbs n).length=0):bitlen n=0:=by
  by_cases h0:n=0
  · subst h0;rfl
  · rw [limbs_pos h0] at h;simp at h
theorem cmpI_lt {a b:Nat} (h:cmpI a b<0):a<b:=by
  unfold cmpI at h;split at h
  · assumption
  · split at h <;> omega
theorem cmpI_ge {a b:Nat} (h:¬cmpI a b<0):b≤a:=by
  unfold cmpI at h;split at h
  · omega
  · omega
end
theorem ival_neg {b:Bool} {l:List Nat} (h:b=true):ival (b,l) = -(nval l:Int):=by simp [ival,h]
theorem ival_pos {b:Bool} {l:List Nat} (h:b=false):ival (b,l)=(nval l:Int):=by simp [ival,h]
theorem ival_abs (y:Bool×List Nat):(ival y).natAbs=nval y.2:=by
  unfold ival;split <;> simp
theorem ival0 {y:Bool×List Nat} (h:nval y.2=0):ival y=0:=by
  unfold ival;split <;> simp [h]
theorem bitlen_0 {n:Nat}:bitlen n=0↔n=0:=by
  constructor
  · intro h
    by_cases h0:n=0
    · exact h0
    · simp [bitlen,h0] at h
  · intro h;subst h;rfl
theorem sign_0 {y:Bool×List Nat} (h:(bitlen (nval y.2):Int)=0):0=(ival y).sign:=by
  rw [ival0 (bitlen_0.1 (by omega))];rfl
theorem sign_neg {y:Bool×List Nat} (h:¬(bitlen (nval y.2):Int)=0) (hb:y.1=true):(-1)=(ival y).sign:=by
  have:nval y.2≠0:=fun h0=>h (by rw [bitlen_0.2 h0];rfl)
  unfold ival;rw [if_pos hb]
  rw [Int.sign_neg,Int.sign_eq_one_of_pos (by omega)]
theorem sign_pos {y:Bool×List Nat} (h:¬(bitlen (nval y.2):Int)=0) (hb:y.1=false):1=(ival y).sign:=by
  have:nval y.2≠0:=fun h0=>h (by rw [bitlen_0.2 h0];rfl)
  unfold ival;rw [if_neg (by simp [hb])]
  rw [Int.sign_eq_one_of_pos (by omega)]
theorem limbs0 {n:Nat} (h:(limbs n).length=0):n=0:=by
  by_cases h0:n=0
  · exact h0
  · rw [limbs_pos h0] at h;simp at h
theorem made_zero {b:Bool} {l:List Nat} (h:nval l=0):(0:Int)=ival (b,l):=(ival0 (y:=(b,l)) h).symm
theorem canon_of {b:Bool} {l:List Nat} (h:nval l≠0):(b,limbs (nval l))=canon (ival (b,l)):=by
  cases b with
  | true=>
    rw [ival_neg rfl]
    simp only [canon,Int.natAbs_neg,Int.natAbs_natCast,Prod.mk.injEq,and_true]
    rw [eq_comm,decide_eq_true_iff]
    omega
  | false=>
    rw [ival_pos rfl]
    simp only [canon,Int.natAbs_natCast,Prod.mk.injEq,and_true]
    rw [eq_comm,decide_eq_false_iff_not]
    omega
theorem canon_of' {b:Bool} {l:List Nat}:(b&&decide (0<((limbs (nval l)).length:Int)),limbs (nval l))=canon (ival (b,l)):=by
  by_cases h:nval l=0
  · rw [h,ival0 (y:=(b,l)) h];simp [limbs_zero,canon]
  · rw [←canon_of h]
    rw [limbs_pos h];simp
theorem copy_take {l:List Nat} {i:Nat} (h:i≤l.length):l.take (min l.length (List.replicate i 0).length)++(List.replicate i 0).drop (min l.length (List.replicate i 0).length)=l.take i:=by
  rw [List.length_replicate,Nat.min_eq_right h,List.drop_of_length_le (by simp),List.append_nil]
theorem add_same {p q:Bool×List Nat} (h:p.1=q.1):ival (p.1,limbs (nval p.2+nval q.2))=ival p+ival q:=by
  unfold ival
  simp only [nval_limbs,←h]
  split <;> omega
theorem add_ge {p q:Bool×List Nat} (h:p.1≠q.1) (hc:¬cmpI (nval p.2) (nval q.2)<0):ival (p.1,if nval p.2<nval q.2 then [] else limbs (nval p.2-nval q.2))=ival p+ival q:=by
  have:=cmpI_ge hc
  rw [if_neg (by omega)]
  unfold ival
  simp only [nval_limbs]
  cases hp:p.1 <;> cases hq:q.1 <;> simp_all <;> omega
theorem add_lt {p q:Bool×List Nat} (h:p.1≠q.1) (hc:cmpI (nval p.2) (nval q.2)<0):ival (q.1,if nval q.2<nval p.2 then [] else limbs (nval q.2-nval p.2))=ival p+ival q:=by
  have:=cmpI_lt hc
  rw [if_neg (by omega)]
  unfold ival
  simp only [nval_limbs]
  cases hp:p.1 <;> cases hq:q.1 <;> simp_all <;> omega
theorem copy_len (i:Nat):(List.replicate i 0).length=i:=List.length_replicate
theorem own_val {y:Bool×List Nat} {z:Int} {t:List Nat} (h:ival y=z):ival (y.1,(y.2++t).take y.2.length)=z:=by
  rw [List.take_left];exact h
theorem made_nz {l:List Nat} {i:Nat} (hlim:l.take i=limbs (nval l)) (hi:i≤l.length) (h:i≠0):nval l≠0:=fun h0=>by
  rw [h0,limbs_zero] at hlim
  have:=congrArg List.length hlim
  rw [List.length_take,List.length_nil] at this
  omega
end Fw
namespace Fw
open Go (IntKind)
theorem take_app1 {l:List Nat} {j:Nat} (h:j<l.length):l.take j++[l.getD j 0]=l.take (j+1):=(take_succ' h).symm
theorem nval_split (l:List Nat) (i:Nat):nval l=nval (l.take i)+4294967296^i*nval (l.drop i):=by
  by_cases h:i≤l.length
  · conv=>lhs;rw [←List.take_append_drop i l,nval_append,List.length_take,Nat.min_eq_left h]
  · rw [List.take_of_length_le (by omega),List.drop_of_length_le (by omega)];simp [nval]
theorem nval_drop (l:List Nat) (i:Nat):nval (l.drop i)=l.getD i 0+4294967296*nval (l.drop (i+1)):=by
  by_cases h:i<l.length
  · rw [List.drop_eq_getElem_cons h,nval,List.getD_eq_getElem?_getD,List.getElem?_eq_getElem h];rfl
  · rw [List.drop_of_length_le (by omega),List.drop_of_length_le (by omega),getD_out (by omega)];rfl
theorem nval_lt' {l:List Nat} (h:Lims l) (i:Nat):nval (l.take i)<4294967296^i:=by
  have h1:=nval_lt (h.take i)
  refine Nat.lt_of_lt_of_le h1 (Nat.pow_le_pow_right (by omega) ?_)
  rw [List.length_take];omega
theorem rcmp_core {a b:List Nat} {i:Nat} (h0:0<i) (hd:nval (a.drop i)=nval (b.drop i)) (la:Lims a) (h:a.getD (i-1) 0<b.getD (i-1) 0):nval a<nval b:=by
  obtain ⟨j,rfl⟩:∃j,i=j+1:=⟨i-1,by omega⟩
  rw [Nat.add_sub_cancel] at h
  rw [nval_split a j,nval_split b j,nval_drop a j,nval_drop b j,hd]
  have h1:=nval_lt' la j
  have h2:4294967296^j*(a.getD j 0+4294967296*nval (b.drop (j+1))+1)≤4294967296^j*(b.getD j 0+4294967296*nval (b.drop (j+1))):=Nat.mul_le_mul_left _ (by omega)
  rw [Nat.mul_add,Nat.mul_one] at h2
  omega
theorem rcmp_lt {a b:List Nat} {i:Nat} (h0:0<i) (hd:nval (a.drop i)=nval (b.drop i)) (la:Lims a) (h:a.getD (i-1) 0<b.getD (i-1) 0):(-1)=cmpI (nval a) (nval b):=by
  simp [cmpI,rcmp_core h0 hd la h]
theorem rcmp_gt {a b:List Nat} {i:Nat} (h0:0<i) (hd:nval (a.drop i)=nval (b.drop i)) (lb:Lims b) (h:b.getD (i-1) 0<a.getD (i-1) 0):1=cmpI (nval a) (nval b):=by
  have:=rcmp_core h0 hd.symm lb h
  simp [cmpI,this,Nat.lt_asymm this]
theorem rcmp_eq {a b:List Nat} {i:Nat} (h0:i=0) (hd:nval (a.drop i)=nval (b.drop i)):0=cmpI (nval a) (nval b):=by
  subst h0
  simp only [List.drop_zero] at hd
  simp [cmpI,hd]
theorem rcmp_down {a b:List Nat} {i:Nat} (h0:0<i) (hd:nval (a.drop i)=nval (b.drop i)) (h:a.getD (i-1) 0=b.getD (i-1) 0):nval (a.drop (i-1))=nval (b.drop (i-1)):=by
  rw [nval_drop a,nval_drop b,show i-1+1=i from by omega,hd,h]
theorem drop_max {a b:List Nat} {i:Nat} (h:i=max a.length b.length):nval (a.drop i)=nval (b.drop i):=by
  have h1:a.length≤i:=by rw [h];exact Nat.le_max_left _ _
  have h2:b.length≤i:=by rw [h];exact Nat.le_max_right _ _
  rw [List.drop_of_length_le h1,List.drop_of_length_le h2]
theorem bitlen_half {w:Nat} (h:0<w):bitlen w=bitlen (w/2)+1:=by
  by_cases h1:w=1
  · subst h1;decide +kernel
  · have:=bitlen_shift (n:=w) 1 (show 2^1≤w by omega)
    rw [this,Nat.add_comm]
theorem rbits_end {l:List Nat} {i:Nat} (hl:Lims l) (h0:0<i) (hd:nval (l.drop i)=0) (hx:l.getD (i-1) 0≠0):bitlen (nval l)=32*(i-1)+bitlen (l.getD (i-1) 0):=by
  obtain ⟨j,rfl⟩:∃j,i=j+1:=⟨i-1,by omega⟩
  rw [Nat.add_sub_cancel] at hx ⊢
  have h1:=nval_split l j
  rw [nval_drop l j,hd,Nat.mul_zero,Nat.add_zero] at h1
  have h2:=nval_lt' hl j
  have e:(4294967296:Nat)^j=2^(32*j):=by
    rw [show (4294967296:Nat)=2^32 from rfl,←Nat.pow_mul]
  rw [e] at h1 h2
  have hp:=Nat.two_pow_pos (32*j)
  have h3:2^(32*j)≤nval l:=by
    rw [h1]
    have:2^(32*j)*1≤2^(32*j)*l.getD j 0:=Nat.mul_le_mul_left _ (by omega)
    omega
  rw [bitlen_shift _ h3]
  congr 2
  rw [h1,Nat.add_mul_div_left _ _ hp,Nat.div_eq_of_lt h2,Nat.zero_add]
theorem rbits_down {l:List Nat} {i:Nat} (h0:0<i) (hd:nval (l.drop i)=0) (hx:l.getD (i-1) 0=0):nval (l.drop (i-1))=0:=by
  rw [nval_drop,show i-1+1=i from by omega,hd,hx]
theorem rbits_0 {l:List Nat} {i:Nat} (h0:i=0) (hd:nval (l.drop i)=0):0=(bitlen (nval l):Int):=by
  subst h0
  simp only [List.drop_zero] at hd
  rw [hd];rfl
theorem tmodN {n b:Int} {s:Nat} (k:Nat) (h:n=s) (hb:b=k):n.tmod b=((s%k:Nat):Int):=by
  subst h hb;rfl
theorem quoN {n b:Int} {s:Nat} (k:Nat) (h:n=s) (hb:b=k) (hs:s<18446744073709551616):IntKind.u64.wrap (n.tdiv b)=((s/k:Nat):Int):=by
  subst h hb
  have e:(s:Int).tdiv (k:Int)=((s/k:Nat):Int):=rfl
  rw [e,wr64 rfl,Nat.mod_eq_of_lt (Nat.lt_of_le_of_lt (Nat.div_le_self _ _) hs)]
theorem quoN32 {n b:Int} {s:Nat} (k:Nat) (h:n=s) (hb:b=k) (hs:s<4294967296):IntKind.u32.wrap (n.tdiv b)=((s/k:Nat):Int):=by
  subst h hb
  have e:(s:Int).tdiv (k:Int)=((s/k:Nat):Int):=rfl
  rw [e,wr32 rfl,Nat.mod_eq_of_lt (Nat.lt_of_le_of_lt (Nat.div_le_self _ _) hs)]
theorem lessR_g {x y r:List Nat} {c d c':Nat} (h:LessR x y r c) (he:d+(c+y.getD r.length 0)=x.getD r.length 0+4294967296*c') (hd:d<4294967296) (hc:c'≤1):LessR x y (r++[d]) c':=by
  obtain ⟨h1,h2,h3⟩:=h
  refine ⟨h1.concat hd,hc,?_⟩
  rw [List.length_append,List.length_singleton,nval_take_succ,nval_take_succ,nval_concat,Nat.pow_succ,Nat.mul_assoc]
  have:=congrArg (4294967296^r.length*·) he
  simp only [Nat.mul_add] at this
  omega
theorem lessR_end' {x y r:List Nat} {c:Nat} (h:LessR x y r c) (hr:r.length=x.length) (hx:Lims x) (hy:Lims y) (hle:nval y≤nval x):nval r=nval x-nval y:=by
  obtain ⟨h1,h2,h3⟩:=h
  have h4:=nval_lt h1
  have h5:=nval_lt hx
  have h6:=nval_split y x.length
  rw [hr,List.take_length] at h3
  rw [hr] at h4
  have h7:nval (y.drop x.length)=0:=by
    rcases Nat.eq_zero_or_pos (nval (y.drop x.length)) with h | h
    · exact h
    · have:4294967296^x.length*1≤4294967296^x.length*nval (y.drop x.length):=Nat.mul_le_mul_left _ h
      omega
  rw [h7,Nat.mul_zero] at h6
  have:c=0:=by
    rcases Nat.lt_or_ge c 1 with h | h
    · omega
    · have hc:c=1:=by omega
      subst hc
      omega
  subst this
  omega
theorem of_neg {n:Int} (h:n<0) (h2 : -9223372036854775808≤n):IntKind.u64.wrap (0-IntKind.u64.wrap n)=((n.natAbs:Nat):Int):=by
  simp [IntKind.wrap,IntKind.signed,IntKind.bits];omega
theorem of_pos {n:Int} (h:¬n<0) (h2:n≤9223372036854775807):IntKind.u64.wrap n=((n.natAbs:Nat):Int):=by
  simp [IntKind.wrap,IntKind.signed,IntKind.bits];omega
theorem of_val {n:Int}:ival (decide (n<0),[n.natAbs%4294967296,n.natAbs/2^32])=n:=by
  have:nval [n.natAbs%4294967296,n.natAbs/2^32]=n.natAbs:=by simp only [nval];omega
  by_cases h:n<0
  · rw [ival_neg (by simp [h]),this];omega
  · rw [ival_pos (by simp [h]),this];omega
theorem radd_ge {p q:Bool×List Nat} (h:p.1≠q.1) (hc:(0:Int)≤cmpI (nval p.2) (nval q.2)):ival (p.1,if nval p.2<nval q.2 then [] else limbs (nval p.2-nval q.2))=ival p+ival q:=add_ge h (by omega)
theorem radd_lt {p q:Bool×List Nat} (h:p.1≠q.1) (hc:¬(0:Int)≤cmpI (nval p.2) (nval q.2)):ival (q.1,if nval q.2<nval p.2 then [] else limbs (nval q.2-nval p.2))=ival p+ival q:=add_lt h (by omega)
theorem eq_take {α:Type} {a b:List α} {i:Nat} {d:α} (hl:a.length=b.length) (hi:i<a.length) (h:a.take i=b.take i) (hx:a.getD i d=b.getD i d):a.take (i+1)=b.take (i+1):=by
  rw [List.take_add_one,List.take_add_one,h]
  congr 1
  rw [List.getElem?_eq_getElem hi,List.getElem?_eq_getElem (by omega)]
  simp only [List.getD_eq_getElem?_getD,List.getElem?_eq_getElem hi,List.getElem?_eq_getElem (show i<b.length by omega),Option.getD_some] at hx
  rw [hx]
theorem eq_full {α:Type} {a b:List α} {i:Nat} (hl:a.length=b.length) (hi:a.length≤i) (h:a.take i=b.take i):a=b:=by
  rwa [List.take_of_length_le hi,List.take_of_length_le (by omega)] at h
theorem take_app {α:Type} {l:List α} {j:Nat} {d:α} (h:j<l.length):l.take j++[l.getD j d]=l.take (j+1):=by
  rw [List.take_add_one,List.getD_eq_getElem?_getD,List.getElem?_eq_getElem h];rfl
abbrev eV:=@take_app
theorem rsign_z {y:Bool×List Nat} (h:(limbs (nval y.2)).length≠0):¬(bitlen (nval y.2):Int)=0:=fun h0=>by
  have h1:nval y.2=0:=bitlen_0.1 (by omega)
  rw [h1,limbs_zero] at h
  exact h rfl
theorem rsign_neg {y:Bool×List Nat} (h:(limbs (nval y.2)).length≠0) (hb:y.1=true):(-1)=(ival y).sign:=sign_neg (rsign_z h) hb
theorem rsign_pos {y:Bool×List Nat} (h:(limbs (nval y.2)).length≠0) (hb:y.1=false):1=(ival y).sign:=sign_pos (rsign_z h) hb
end Fw
namespace Fw
end Fw
namespace Fw
open Go
def ones (B:List Int):Nat→List Int
  | 0=>[]
  | i+1=>ones B i++(if B.getD i 0=1 then [(i:Int)] else [])
theorem sgn_lt0 {a:Int} (h:a.sign<0):a<0:=by
  rcases Int.lt_trichotomy a 0 with h1 | h1 | h1
  · exact h1
  · subst h1;simp at h
  · rw [Int.sign_eq_one_of_pos h1] at h;omega
theorem sgn_ge0 {a:Int} (h:¬a.sign<0):0≤a:=by
  rcases Int.lt_trichotomy a 0 with h1 | h1 | h1
  · rw [Int.sign_eq_neg_one_of_neg h1] at h;omega
  · omega
  · omega
end Fw
namespace Fw
theorem lt_gen {n k x:Nat} (h:n≤k) (hx:x<4294967296^n):x<4294967296^k:=Nat.lt_of_lt_of_le hx (Nat.pow_le_pow_right (by decide) h)
theorem kZ_sm {z:Int} (m:Mem) (v:Go.Value) (h:(kZ.is z).p m v):Sm z:=by
  obtain ⟨cs,_,y,h1,rfl,h2⟩:=h
  have hl:Lims y.2:=by
    obtain ⟨a,b,_,_,_,_,_,_,_,h3⟩:=h1
    rcases h3 with h3 | ⟨_,_,_,_,_,_,_,r⟩
    · intro x hx;rw [h3] at hx;cases hx
    · exact rows_lims r
  unfold Sm
  rw [ival_abs]
  have h5:=lt_gen h2 (nval_lt hl)
  exact h5
abbrev dF:=@kZ_sm
theorem Sm_mono {x y:Int} (h:Sm x) (hl:y.natAbs≤x.natAbs):Sm y:=Nat.lt_of_le_of_lt hl h
theorem Sm_neg {z:Int} (h:Sm z):Sm (-z):=Sm_mono h (Nat.le_of_eq (Int.natAbs_neg z))
abbrev ec:=@Sm_neg
theorem ival_not {y:Bool×List Nat}:ival (!y.1,y.2) = -ival y:=by
  unfold ival
  cases y.1 <;> simp
theorem ival_mul {p q:Bool×List Nat}:ival (decide (p.1≠q.1),limbs (nval p.2*nval q.2))=ival p*ival q:=by
  unfold ival
  simp only [nval_limbs]
  cases hp:p.1 <;> cases hq:q.1 <;> simp [Int.neg_mul,Int.mul_neg]
theorem zcmp_lt {p q:Bool×List Nat} {x y:Int} (hp:ival p=x) (hq:ival q=y) (h:(ival p).sign<(ival q).sign):(-1)=(x-y).sign:=by
  subst hp hq
  have:ival p<ival q:=by
    rcases Int.lt_trichotomy (ival p) 0 with h1 | h1 | h1 <;> rcases Int.lt_trichotomy (ival q) 0 with h2 | h2 | h2 <;>
      simp_all [Int.sign_eq_one_of_pos,Int.sign_eq_neg_one_of_neg] <;> omega
  rw [Int.sign_eq_neg_one_of_neg (by omega)]
theorem zcmp_gt {p q:Bool×List Nat} {x y:Int} (hp:ival p=x) (hq:ival q=y) (h:(ival q).sign<(ival p).sign):1=(x-y).sign:=by
  subst hp hq
  have:ival q<ival p:=by
    rcases Int.lt_trichotomy (ival p) 0 with h1 | h1 | h1 <;> rcases Int.lt_trichotomy (ival q) 0 with h2 | h2 | h2 <;>
      simp_all [Int.sign_eq_one_of_pos,Int.sign_eq_neg_one_of_neg] <;> omega
  rw [Int.sign_eq_one_of_pos (by omega)]
theorem cmpI_sign (a b:Nat):cmpI a b=((a:Int)-b).sign:=by
  unfold cmpI
  rcases Nat.lt_trichotomy a b with h | h | h
  · rw [if_pos h,Int.sign_eq_neg_one_of_neg (by omega)]
  · subst h;simp
  · rw [if_neg (by omega),if_pos h,Int.sign_eq_one_of_pos (by omega)]
theorem zcmp_same {p q:Bool×List Nat} {x y:Int} (hp:ival p=x) (hq:ival q=y) (h1:¬(ival p).sign<(ival q).sign) (h2:¬(ival q).sign<(ival p).sign):Go.IntKind.i64.wrap ((ival p).sign*cmpI (nval p.2) (nval q.2))=(x-y).sign:=by
  subst hp hq
  have hs:(ival p).sign=(ival q).sign:=by omega
  have key:(ival p).sign*cmpI (nval p.2) (nval q.2)=(ival p-ival q).sign:=by
    rcases Int.lt_trichotomy (ival p) 0 with h1 | h1 | h1
    · have hq:ival q<0:=by
        rw [Int.sign_eq_neg_one_of_neg h1] at hs
        exact Int.sign_eq_neg_one_iff_neg.1 hs.symm
      have e1:ival p = -(nval p.2:Int):=by
        unfold ival at h1 ⊢;split <;> simp_all <;> omega
      have e2:ival q = -(nval q.2:Int):=by
        unfold ival at hq ⊢;split <;> simp_all <;> omega
      rw [Int.sign_eq_neg_one_of_neg h1,cmpI_sign,e1,e2,show (-(nval p.2:Int) - -(nval q.2:Int)) = -((nval p.2:Int)-(nval q.2:Int)) by omega,Int.sign_neg]
      omega
    · have hq:ival q=0:=by
        rw [h1] at hs
        exact Int.sign_eq_zero_iff_zero.1 hs.symm
      rw [h1,hq];simp
    · have hq:0<ival q:=by
        rw [Int.sign_eq_one_of_pos h1] at hs
        exact Int.sign_eq_one_iff_pos.1 hs.symm
      have e1:ival p=(nval p.2:Int):=by
        unfold ival at h1 ⊢;split <;> simp_all <;> omega
      have e2:ival q=(nval q.2:Int):=by
        unfold ival at hq ⊢;split <;> simp_all <;> omega
      rw [Int.sign_eq_one_of_pos h1,cmpI_sign,e1,e2,Int.one_mul]
  rw [key]
  rcases Int.lt_trichotomy (ival p-ival q) 0 with h | h | h
  · rw [Int.sign_eq_neg_one_of_neg h];rfl
  · rw [h];rfl
  · rw [Int.sign_eq_one_of_pos h];rfl
theorem fdiv_unique {x y q r:Int} (h:x=q*y+r) (hr:(0≤r∧r<y)∨(y<r∧r≤0)):q=x.fdiv y∧r=x.fmod y:=by
  have key:q=x.fdiv y:=by
    rcases hr with ⟨h1,h2⟩ | ⟨h1,h2⟩
    · rw [Int.fdiv_eq_ediv_of_nonneg _ (by omega),h,Int.add_comm,Int.add_mul_ediv_right _ _ (by omega),Int.ediv_eq_zero_of_lt h1 h2];omega
    · rw [←Int.neg_fdiv_neg,Int.fdiv_eq_ediv_of_nonneg _ (by omega),h,show -(q*y+r) = -r+q * -y by rw [Int.mul_neg];omega,Int.add_mul_ediv_right _ _ (by omega),Int.ediv_eq_zero_of_lt (by omega) (by omega)];omega
  refine ⟨key,?_⟩
  rw [Int.fmod_def,←key,h,Int.mul_comm y q];omega
theorem div_split {p q:Bool×List Nat} (hq:nval q.2≠0):ival p=ival (decide (p.1≠q.1),limbs (nval p.2/nval q.2))*ival q+ival (p.1,if nval q.2=0 then [] else limbs (nval p.2%nval q.2)):=by
  have h:=Nat.div_add_mod (nval p.2) (nval q.2)
  rw [if_neg hq]
  unfold ival
  simp only [nval_limbs]
  have h':(nval p.2:Int)=(nval q.2:Int)*((nval p.2/nval q.2:Nat):Int)+((nval p.2%nval q.2:Nat):Int):=by
    rw [←Int.natCast_mul,←Int.natCast_add,h]
  rw [Int.mul_comm] at h'
  generalize ((nval p.2/nval q.2:Nat):Int)=d at *
  generalize ((nval p.2%nval q.2:Nat):Int)=r at *
  rw [h']
  cases hp:p.1 <;> cases hq:q.1 <;> simp [Int.neg_mul,Int.mul_neg] <;> omega
theorem rem_lt {p q:Bool×List Nat} (hq:nval q.2≠0):(ival (p.1,if nval q.2=0 then [] else limbs (nval p.2%nval q.2))).natAbs<(ival q).natAbs:=by
  rw [ival_abs,ival_abs,if_neg hq,nval_limbs]
  exact Nat.mod_lt _ (by omega)
theorem floor_0 {x y M R:Int} (h:x=M*y+R) (hl:R.natAbs<y.natAbs) (h0:¬R.sign≠0):M=x.fdiv y∧R=x.fmod y:=by
  have:R=0:=Int.sign_eq_zero_iff_zero.1 (by omega)
  exact fdiv_unique h (by omega)
theorem floor_1 {x y M R:Int} (h:x=M*y+R) (hl:R.natAbs<y.natAbs) (h0:R.sign≠0) (h1:¬R.sign≠y.sign):M=x.fdiv y∧R=x.fmod y:=by
  refine fdiv_unique h ?_
  have h2:R.sign=y.sign:=by omega
  rcases Int.lt_trichotomy R 0 with h3 | h3 | h3
  · rw [Int.sign_eq_neg_one_of_neg h3] at h2
    have:=Int.sign_eq_neg_one_iff_neg.1 h2.symm
    omega
  · rw [h3] at h0;simp at h0
  · rw [Int.sign_eq_one_of_pos h3] at h2
    have:=Int.sign_eq_one_iff_pos.1 h2.symm
    omega
theorem floor_2 {x y M R:Int} (h:x=M*y+R) (hl:R.natAbs<y.natAbs) (h0:R.sign≠0) (h1:R.sign≠y.sign):M-1=x.fdiv y∧R+y=x.fmod y:=by
  refine fdiv_unique (by rw [h,Int.sub_mul,Int.one_mul];omega) ?_
  rcases Int.lt_trichotomy R 0 with h3 | h3 | h3
  · rw [Int.sign_eq_neg_one_of_neg h3] at h1
    have:¬y<0:=fun hy=>h1 (by rw [Int.sign_eq_neg_one_of_neg hy])
    omega
  · rw [h3] at h0;simp at h0
  · rw [Int.sign_eq_one_of_pos h3] at h1
    have:¬0<y:=fun hy=>h1 (by rw [Int.sign_eq_one_of_pos hy])
    omega
theorem Sm_le {x y:Int} (h:Sm x) (hl:y.natAbs≤x.natAbs):Sm y:=Nat.lt_of_le_of_lt hl h
theorem Sm_lit {n:Int} (h:n.natAbs<2^64):Sm n:=Sm_of (n:=64) h (by decide)
theorem fmod_abs {x y:Int} (hy:y≠0):(x.fmod y).natAbs<y.natAbs:=by
  rcases Int.lt_trichotomy y 0 with h | h | h
  · have h1:x.fmod y = -((-x).fmod (-y)):=by
      rw [Int.fmod_def,Int.fmod_def,Int.neg_fdiv_neg,Int.neg_mul];omega
    have h2:=Int.fmod_nonneg_of_pos (-x) (show 0 < -y by omega)
    have h3:=Int.fmod_lt_of_pos (-x) (show 0 < -y by omega)
    omega
  · exact absurd h hy
  · have h2:=Int.fmod_nonneg_of_pos x h
    have h3:=Int.fmod_lt_of_pos x h
    omega
theorem fmod_sm {x y:Int} (h:Sm y) (hy:y≠0):Sm (x.fmod y):=Sm_le h (Nat.le_of_lt (fmod_abs hy))
end Fw
namespace Fw
open Go
def Sz (n:Nat) (z:Int):Prop:=z.natAbs<2^n
theorem Sz.up {n m:Nat} {z:Int} (h:Sz n z) (hm:n≤m):Sz m z:=Nat.lt_of_lt_of_le h (Nat.pow_le_pow_right (by decide) hm)
theorem Sz.sm {n:Nat} {z:Int} (h:Sz n z) (hm:n≤549755813888):Sm z:=Sm_of h hm
theorem Sz.neg {n:Nat} {z:Int} (h:Sz n z):Sz n (-z):=by unfold Sz at *;rwa [Int.natAbs_neg]
theorem Sz.add {n m:Nat} {x y:Int} (h:Sz n x) (k:Sz m y):Sz (n+m+1) (x+y):=by
  unfold Sz at *
  have h1:(x+y).natAbs≤x.natAbs+y.natAbs:=Int.natAbs_add_le x y
  have h2:2^n≤2^(n+m):=Nat.pow_le_pow_right (by decide) (by omega)
  have h3:2^m≤2^(n+m):=Nat.pow_le_pow_right (by decide) (by omega)
  rw [Nat.pow_succ]
  omega
theorem Sz.max {n m:Nat} {x y:Int} (h:Sz n x) (k:Sz m y):Sz (Nat.max n m+1) (x+y):=by
  have h':=Sz.up h (Nat.le_max_left n m)
  have k':=Sz.up k (Nat.le_max_right n m)
  unfold Sz at *
  have h1:(x+y).natAbs≤x.natAbs+y.natAbs:=Int.natAbs_add_le x y
  have e:Max.max n m=Nat.max n m:=rfl
  rw [e] at h' k'
  rw [Nat.pow_succ]
  omega
theorem Sz.sub {n m:Nat} {x y:Int} (h:Sz n x) (k:Sz m y):Sz (n+m+1) (x-y):=by
  rw [Int.sub_eq_add_neg];exact h.add k.neg
theorem Sz.mul {n m:Nat} {x y:Int} (h:Sz n x) (k:Sz m y):Sz (n+m) (x*y):=by
  unfold Sz at *
  rw [Int.natAbs_mul,Nat.pow_add]
  exact Nat.mul_lt_mul'' h k
theorem Sz.le {n:Nat} {x y:Int} (h:Sz n x) (hl:y.natAbs≤x.natAbs):Sz n y:=Nat.lt_of_le_of_lt hl h
theorem Sz.zero (n:Nat):Sz n 0:=Nat.two_pow_pos n
def rmk (n d:Int):Int×Int:=((n*d.sign).fdiv (Int.gcd n d),(d.natAbs:Int).fdiv (Int.gcd n d))
theorem gcd_dvd_fmod {n g:Int} (h:g∣n):n.fmod g=0:=Int.fmod_eq_zero_of_dvd h
theorem gcd_ne {n d:Int} (hd:d≠0):((Int.gcd n d:Nat):Int)≠0:=by
  intro h
  have h1:Int.gcd n d=0:=by omega
  exact hd (Int.gcd_eq_zero_iff.1 h1).2
theorem gcd_sign {n d:Int} (hd:d≠0):Int.gcd (n*d.sign) (d.natAbs:Int)=Int.gcd n d:=by
  have h1:(n*d.sign).natAbs=n.natAbs:=by
    rw [Int.natAbs_mul,Int.natAbs_sign,if_neg hd,Nat.mul_one]
  simp [Int.gcd,h1]
theorem mul_sign_pos {n d:Int} (h:0<d):n*d.sign=n:=by rw [Int.sign_eq_one_of_pos h,Int.mul_one]
theorem mul_sign_neg {n d:Int} (h:d<0):n*d.sign = -n:=by rw [Int.sign_eq_neg_one_of_neg h];omega
theorem rmk_exact {n d:Int} (hd:d≠0):(if (n*d.sign).fmod (Int.gcd (n*d.sign) (d.natAbs:Int):Int)=0∧((Int.gcd (n*d.sign) (d.natAbs:Int):Nat):Int)≠0 then (n*d.sign).fdiv (Int.gcd (n*d.sign) (d.natAbs:Int):Int) else 0)=(rmk n d).1
    ∧ (if (d.natAbs:Int).fmod (Int.gcd (n*d.sign) (d.natAbs:Int):Int)=0∧((Int.gcd (n*d.sign) (d.natAbs:Int):Nat):Int)≠0 then (d.natAbs:Int).fdiv (Int.gcd (n*d.sign) (d.natAbs:Int):Int) else 0)=(rmk n d).2:=by
  rw [gcd_sign hd]
  have h0:=gcd_ne (n:=n) hd
  have h1:((Int.gcd n d:Nat):Int)∣n*d.sign:=by
    rw [←gcd_sign hd];exact Int.gcd_dvd_left ..
  have h2:((Int.gcd n d:Nat):Int)∣(d.natAbs:Int):=by
    rw [←gcd_sign hd];exact Int.gcd_dvd_right ..
  rw [if_pos ⟨gcd_dvd_fmod h1,h0⟩,if_pos ⟨gcd_dvd_fmod h2,h0⟩]
  exact ⟨rfl,rfl⟩
theorem gcd_le_abs {n d:Int} (hd:d≠0):((Int.gcd n d:Nat):Int).natAbs≤d.natAbs:=by
  rw [Int.natAbs_natCast]
  exact Nat.le_of_dvd (by omega) (Nat.gcd_dvd_right _ _)
theorem canon_len {z:Int} (h:Sm z):(canon z).2.length≤17179869184:=limbs_len_lt h
theorem canon_nval (z:Int):nval (canon z).2=z.natAbs:=by simp [canon,nval_limbs]
theorem ival_div {n:Int} {g:Nat} (hg:g≠0) (hn:(g:Int)∣n):ival (decide (n<0),limbs (n.natAbs/g))=n.fdiv g:=by
  obtain ⟨k,rfl⟩:=hn
  have hg0:0<g:=by omega
  have h1:((g:Int)*k).natAbs/g=k.natAbs:=by
    rw [Int.natAbs_mul,Int.natAbs_natCast,Nat.mul_div_cancel_left _ hg0]
  have h2:((g:Int)*k).fdiv g=k:=by
    rw [Int.mul_fdiv_cancel_left _ (by omega)]
  rw [h1,h2]
  have h3:decide ((g:Int)*k<0)=decide (k<0):=by
    have:((g:Int)*k<0)↔(k<0):=by
      constructor
      · intro h
        rcases Int.lt_or_le k 0 with h4 | h4
        · exact h4
        · have:=Int.mul_nonneg (show (0:Int)≤g by omega) h4;omega
      · intro h;exact Int.mul_neg_of_pos_of_neg (by omega) h
    simp [this]
  rw [h3]
  exact ival_canon k
theorem rmk_den {n d d1:Int} (hd:d≠0) (h:d1=(d.natAbs:Int)):(false,limbs (d1.natAbs/Int.gcd n d))=canon (rmk n d).2:=by
  subst h
  rw [Int.natAbs_natCast]
  have e:(rmk n d).2=((d.natAbs/Int.gcd n d:Nat):Int):=by
    show ((d.natAbs:Int)).fdiv ((Int.gcd n d:Nat):Int)=_
    rw [Int.fdiv_eq_ediv_of_nonneg _ (by omega)]
    exact (Int.natCast_ediv _ _).symm
  rw [e]
  generalize d.natAbs/Int.gcd n d=k
  have h1:¬((k:Nat):Int)<0:=by omega
  simp [canon,h1]
def vbF (n:Int) (x:Int):Int:=max n (bitlen x.natAbs:Int)
def vbN (n:Int) (v:List Int):Int:=v.foldl vbF n
def mbits (b:List (List Int)):Int:=b.foldl vbN 0
theorem vbN_s {n:Int} {v:List Int} {i:Nat} (hi:i<v.length):max (vbN n (v.take i)) (bitlen (v.getD i 0).natAbs:Int)=vbN n (v.take (i+1)):=by
  rw [←take_app (d:=0) hi];unfold vbN;rw [List.foldl_append];rfl
theorem vbN_ge (n:Int):∀v:List Int,n≤vbN n v
  | []=>Int.le_refl n
  | x::v=>by
    have:=vbN_ge (vbF n x) v
    have h2:n≤vbF n x:=Int.le_max_left _ _
    exact Int.le_trans h2 this
theorem vbN_mem:∀{v:List Int} {n:Int} {x:Int},x∈v→(bitlen x.natAbs:Int)≤vbN n v
  | y::v,n,x,h=>by
    rcases List.mem_cons.1 h with e | h
    · subst e
      exact Int.le_trans (Int.le_max_right _ _) (vbN_ge (vbF n x) v)
    · exact vbN_mem (v:=v) (n:=vbF n y) h
theorem mb_s {b:List (List Int)} {i:Nat} (hi:i<b.length):vbN ((b.take i).foldl vbN 0) (b.getD i [])=(b.take (i+1)).foldl vbN 0:=by
  rw [←take_app (d:=[]) hi,List.foldl_append];rfl
theorem mb_done {b:List (List Int)} {i k:Nat} (hi:i<b.length) (hk:(b.getD i []).length≤k):vbN ((b.take i).foldl vbN 0) ((b.getD i []).take k)=(b.take (i+1)).foldl vbN 0:=by
  rw [List.take_of_length_le hk];exact mb_s hi
theorem canon_eqd {a b:Int} (h:(!decide (canon a=canon b))=false):a=b:=by
  simp at h;exact canon_inj h
theorem canon_ned {a b:Int} (h:(!decide (canon a=canon b))=true):¬a=b:=by
  intro e;subst e;simp at h
abbrev Col:=Nat→Rat
def ctl (c:Col):Col:=fun i=>c (i+1)
def clin (x:Col) (t:Rat) (y:Col):Col:=fun i=>x i+t*y i
theorem ctl_lin (x:Col) (t:Rat) (y:Col):ctl (clin x t y)=clin (ctl x) t (ctl y):=rfl
def altS (f:List Col→Rat):List Col→List Col→Rat
  | _,[]=>0
  | p,c::q=>c 0*f (p++q)-altS f (p++[c]) q
def dt:Nat→List Col→Rat
  | 0,[]=>1
  | 0,_::_=>0
  | n+1,L=>altS (fun M=>dt n (M.map ctl)) [] L
def Lin (f:List Col→Rat):Prop:=∀p x t y q,f (p++clin x t y::q)=f (p++x::q)+t*f (p++y::q)
theorem altS_linA {f} (hf:Lin f) (x:Col) (t:Rat) (y:Col) (p:List Col):∀q r,altS f (p++clin x t y::r) q=altS f (p++x::r) q+t*altS f (p++y::r) q
  | [],r=>by simp only [altS];grind
  | c::q,r=>by
    have h1:=hf p x t y (r++q)
    have h2:=altS_linA hf x t y p q (r++[c])
    simp only [altS,List.append_assoc,List.cons_append] at *
    rw [h1,h2];grind
theorem altS_lin {f} (hf:Lin f) (x:Col) (t:Rat) (y:Col) (q:List Col):∀a p,altS f p (a++clin x t y::q)=altS f p (a++x::q)+t*altS f p (a++y::q)
  | [],p=>by
    have h1:=altS_linA hf x t y p q []
    simp only [altS,List.nil_append,clin] at *
    rw [h1];grind
  | c::a,p=>by
    have h1:=hf (p++a) x t y q
    have h2:=altS_lin hf x t y q a (p++[c])
    simp only [altS,List.append_assoc,List.cons_append] at *
    rw [h1,h2];grind
theorem dt_lin:∀n,Lin (dt n)
  | 0=>fun p x t y q=>by cases p <;> simp [dt] <;> grind
  | n+1=>fun p x t y q=>by
    have hf:Lin (fun M=>dt n (M.map ctl)):=fun p x t y q=>by
      have:=dt_lin n (p.map ctl) (ctl x) t (ctl y) (q.map ctl)
      simpa only [List.map_append,List.map_cons,ctl_lin] using this
    exact altS_lin hf x t y q p []
def Adj (f:List Col→Rat):Prop:=∀p x q,f (p++x::x::q)=0
theorem altS_adjA {f} (hf:Adj f) (x:Col) (p:List Col):∀q r,altS f (p++x::x::r) q=0
  | [],r=>by simp only [altS]
  | c::q,r=>by
    have h1:=hf p x (r++q)
    have h2:=altS_adjA hf x p q (r++[c])
    simp only [altS,List.append_assoc,List.cons_append] at *
    rw [h1,h2];grind
theorem altS_adj {f} (hf:Adj f) (x:Col) (q:List Col):∀a p,altS f p (a++x::x::q)=0
  | [],p=>by
    have h1:=altS_adjA hf x p q []
    simp only [altS,List.nil_append,List.append_assoc,List.cons_append] at *
    rw [h1];grind
  | c::a,p=>by
    have h1:=hf (p++a) x q
    have h2:=altS_adj hf x q a (p++[c])
    simp only [altS,List.append_assoc,List.cons_append] at *
    rw [h1,h2];grind
theorem dt_adj:∀n,Adj (dt n)
  | 0=>fun p x q=>by cases p <;> simp [dt]
  | n+1=>fun p x q=>by
    have hf:Adj (fun M=>dt n (M.map ctl)):=fun p x q=>by
      have:=dt_adj n (p.map ctl) (ctl x) (q.map ctl)
      simpa only [List.map_append,List.map_cons] using this
    exact altS_adj hf x q p []
theorem dt_swap (n) (p:List Col) (x y:Col) (q:List Col):dt n (p++x::y::q) = - dt n (p++y::x::q):=by
  have hl:=dt_lin n
  have ha:=dt_adj n p (clin x 1 y) q
  have h1:=hl p x 1 y (clin x 1 y::q)
  have h2:=hl (p++[x]) x 1 y q
  have h3:=hl (p++[y]) x 1 y q
  have h4:=dt_adj n p x q
  have h5:=dt_adj n p y q
  simp only [List.append_assoc,List.cons_append,List.nil_append] at *
  rw [h2,h3] at h1;rw [h1] at ha;grind
theorem dt_eq (n) (x:Col) (q:List Col):∀m p,dt n (p++x::(m++x::q))=0
  | [],p=>dt_adj n p x q
  | y::m,p=>by
    have h1:=dt_swap n p x y (m++x::q)
    have h2:=dt_eq n x q m (p++[y])
    simp only [List.append_assoc,List.cons_append,List.nil_append] at *
    rw [h1,h2];rfl
theorem dt_ops (n) (x:Col) (s:Col→Rat):∀q p,dt n (x::(p++q.map (fun c=>clin c (s c) x)))=dt n (x::(p++q))
  | [],p=>rfl
  | c::q,p=>by
    have h1:=dt_lin n (x::p) c (s c) x (q.map (fun c=>clin c (s c) x))
    have h2:=dt_eq n x (q.map (fun c=>clin c (s c) x)) p []
    have h3:=dt_ops n x s q (p++[c])
    simp only [List.append_assoc,List.cons_append,List.nil_append,List.map_cons] at *
    rw [h1,h2,h3];grind
theorem altS_zero (f):∀q p,(∀c∈q,c 0=(0:Rat))→altS f p q=0
  | [],p,h=>rfl
  | c::q,p,h=>by
    have h1:=altS_zero f q (p++[c]) (fun d hd=>h d (List.mem_cons_of_mem _ hd))
    have h2:=h c (List.mem_cons_self ..)
    simp only [altS,h1,h2];grind
def schur (x c:Col):Col:=fun i=>c (i+1)-x (i+1)*c 0/x 0
theorem dt_schur (n) (x:Col) (q:List Col) (hx:x 0≠0):dt (n+1) (x::q)=x 0*dt n (q.map (schur x)):=by
  have h1:=dt_ops (n+1) x (fun c=> - (c 0/x 0)) q []
  simp only [List.nil_append] at h1
  rw [←h1];simp only [dt,altS,List.nil_append]
  rw [altS_zero]
  · rw [List.map_map]
    have:(ctl∘fun c:Col=>clin c (- (c 0/x 0)) x)=schur x:=by
      funext c i;simp only [Function.comp,ctl,clin,schur];grind
    rw [this];grind
  · intro d hd
    obtain ⟨c,hc,rfl⟩:=List.mem_map.mp hd
    simp only [clin];grind
def IsI (q:Rat):Prop:=∃z:Int,q=(z:Rat)
theorem IsI.add {a b}:IsI a→IsI b→IsI (a+b):=fun ⟨x,hx⟩ ⟨y,hy⟩=>⟨x+y,by rw [hx,hy,Rat.intCast_add]⟩
theorem IsI.sub {a b}:IsI a→IsI b→IsI (a-b):=fun ⟨x,hx⟩ ⟨y,hy⟩=>⟨x-y,by rw [hx,hy,Rat.intCast_sub]⟩
theorem IsI.mul {a b}:IsI a→IsI b→IsI (a*b):=fun ⟨x,hx⟩ ⟨y,hy⟩=>⟨x*y,by rw [hx,hy,Rat.intCast_mul]⟩
def IC (c:Col):Prop:=∀i,IsI (c i)
theorem altS_int {f} (hf:∀M:List Col,(∀c∈M,IC c)→IsI (f M)):∀q p,(∀c∈q,IC c)→(∀c∈p,IC c)→IsI (altS f p q)
  | [],p,h,g=>⟨0,rfl⟩
  | c::q,p,h,g=>by
    have h1:=altS_int hf q (p++[c]) (fun d hd=>h d (List.mem_cons_of_mem _ hd)) (fun d hd=>by
      rcases List.mem_append.mp hd with h1 | h1
      · exact g d h1
      · rw [List.mem_singleton.mp h1];exact h c (List.mem_cons_self ..))
    refine IsI.sub (IsI.mul (h c (List.mem_cons_self ..) 0) (hf _ ?_)) h1
    intro d hd
    rcases List.mem_append.mp hd with h1 | h1
    · exact g d h1
    · exact h d (List.mem_cons_of_mem _ h1)
theorem dt_int:∀n (L:List Col),(∀c∈L,IC c)→IsI (dt n L)
  | 0,[],_=>⟨1,rfl⟩
  | 0,_::_,_=>⟨0,rfl⟩
  | n+1,L,h=>altS_int (fun M hM=>dt_int n _ (fun d hd=>by
      obtain ⟨c,hc,rfl⟩:=List.mem_map.mp hd
      exact fun i=>hM c hc (i+1))) L [] h (fun c hc=>by cases hc)
def gsE (G:Nat→Nat→Rat):Nat→Nat→Nat→Rat
  | 0=>G
  | k+1=>fun i j=>gsE G k i j-gsE G k i k*gsE G k k j/gsE G k k k
def gsD (G:Nat→Nat→Rat):Nat→Rat
  | 0=>1
  | k+1=>gsD G k*gsE G k k k
def gsN (G:Nat→Nat→Rat):Nat→Nat→Rat:=fun i j=>G (i+1) (j+1)-G (i+1) 0*G 0 (j+1)/G 0 0
theorem gsE_front (G):∀k i j,gsE G (k+1) (i+1) (j+1)=gsE (gsN G) k i j
  | 0,i,j=>rfl
  | k+1,i,j=>by
    have h:=gsE_front G k
    show gsE G (k+1) (i+1) (j+1)-gsE G (k+1) (i+1) (k+1)*gsE G (k+1) (k+1) (j+1)/gsE G (k+1) (k+1) (k+1)=gsE (gsN G) k i j-gsE (gsN G) k i k*gsE (gsN G) k k j/gsE (gsN G) k k k
    rw [h,h,h,h]
theorem gsD_front (G):∀k,gsD G (k+1)=G 0 0*gsD (gsN G) k
  | 0=>by simp only [gsD,gsE];grind
  | k+1=>by
    have h:=gsD_front G k
    show gsD G (k+1)*gsE G (k+1) (k+1) (k+1)=G 0 0*(gsD (gsN G) k*gsE (gsN G) k k k)
    rw [h,gsE_front];grind
def gsC (G:Nat→Nat→Rat) (k i:Nat) (j:Nat):Col:=fun r=>if r=k then G i j else G r j
theorem gs_det:∀(k:Nat) (G:Nat→Nat→Rat),(∀l,l<k→gsE G l l l≠0)→∀i j,k≤i→k≤j→gsD G k*gsE G k i j=dt (k+1) ((List.range k).map (gsC G k i)++[gsC G k i j])
  | 0,G,h,i,j,hi,hj=>by simp [gsD,gsE,dt,altS,gsC];grind
  | k+1,G,h,i,j,hi,hj=>by
    obtain ⟨i,rfl⟩:∃i',i=i'+1:=⟨i-1,by omega⟩
    obtain ⟨j,rfl⟩:∃j',j=j'+1:=⟨j-1,by omega⟩
    have h0:G 0 0≠0:=h 0 (by omega)
    have hn:=gs_det k (gsN G) (fun l hl=>by rw [←gsE_front];exact h (l+1) (by omega)) i j (by omega) (by omega)
    rw [gsD_front,gsE_front,Rat.mul_assoc,hn,List.range_succ_eq_map,List.map_cons,List.cons_append]
    have hx:gsC G (k+1) (i+1) 0 0=G 0 0:=by simp [gsC]
    rw [dt_schur _ _ _ (by rw [hx];exact h0),hx]
    congr 2
    rw [List.map_append,List.map_map,List.map_map]
    have e:∀l,schur (gsC G (k+1) (i+1) 0) (gsC G (k+1) (i+1) (l+1))=gsC (gsN G) k i l:=by
      intro l;funext r;simp only [schur,gsC,gsN]
      by_cases hr:r=k
      · subst hr;simp
      · simp [hr]
    congr 1
    · apply List.map_congr_left;intro l _;exact (e l).symm
    · simp only [List.map_cons,List.map_nil];rw [e]
theorem gs_int {G:Nat→Nat→Rat} (hG:∀i j,IsI (G i j)) (k:Nat) (h:∀l,l<k→gsE G l l l≠0) {i j:Nat} (hi:k≤i) (hj:k≤j):IsI (gsD G k*gsE G k i j):=by
  rw [gs_det k G h i j hi hj]
  apply dt_int
  have hc:∀j,IC (gsC G k i j):=fun j r=>by simp only [gsC];split <;> exact hG _ _
  intro c hc'
  rcases List.mem_append.mp hc' with h1 | h1
  · obtain ⟨l,_,rfl⟩:=List.mem_map.mp h1;exact hc l
  · rw [List.mem_singleton.mp h1];exact hc j
def uE (G:Nat→Nat→Int):Nat→Nat→Nat→Int
  | 0=>G
  | k+1=>fun i j=>(uE G k k k*uE G k i j-uE G k i k*uE G k j k).fdiv (match k with | 0=>1 | l+1=>uE G l l l)
def uD (G:Nat→Nat→Int):Nat→Int
  | 0=>1
  | l+1=>uE G l l l
theorem uE_succ (G) (k i j):uE G (k+1) i j=(uD G (k+1)*uE G k i j-uE G k i k*uE G k j k).fdiv (uD G k):=by cases k <;> rfl
def qG (G:Nat→Nat→Int):Nat→Nat→Rat:=fun i j=>(G i j:Rat)
def SymG (G:Nat→Nat→Int):Prop:=∀i j,G i j=G j i
theorem gsE_sym {G:Nat→Nat→Rat} (h:∀i j,G i j=G j i):∀k i j,gsE G k i j=gsE G k j i
  | 0,i,j=>h i j
  | k+1,i,j=>by
    have h1:=gsE_sym h k
    simp only [gsE];rw [h1 i j,h1 i k,h1 k j];grind
def PosU (G:Nat→Nat→Int) (k:Nat):Prop:=∀l,l<k→0<uE G l l l
theorem PosU.le {G k l} (h:PosU G k) (hl:l≤k):PosU G l:=fun m hm=>h m (by omega)
theorem PosU.uD {G k} (h:PosU G k):∀{l},l≤k→0<uD G l
  | 0,_=>by show (0:Int)<1;decide
  | l+1,hl=>h l (by omega)
theorem fdiv_ex {a b c:Int} (hc:c≠0) (h:a=b*c):a.fdiv c=b:=by
  rw [h];exact Int.mul_fdiv_cancel _ hc
theorem rat_ne {a:Int} (h:a≠0):(a:Rat)≠0:=fun e=>h (by exact_mod_cast e)
structure UGs (G:Nat→Nat→Int) (k:Nat):Prop where
  d:((uD G k:Int):Rat)=gsD (qG G) k
  e:∀i j,k≤i→k≤j→((uE G k i j:Int):Rat)=gsD (qG G) k*gsE (qG G) k i j
  x:∀l,l<k→∀i j,l≤i→l≤j→l<i→l<j→uE G (l+1) i j*uD G l=uD G (l+1)*uE G l i j-uE G l i l*uE G l j l
  p:∀l,l<k→gsE (qG G) l l l≠0
theorem ugs {G:Nat→Nat→Int} (hs:SymG G):∀k,PosU G k→UGs G k
  | 0,_=>⟨rfl,fun i j _ _=>by simp only [uE,gsD,gsE,qG];grind,fun l hl=>by omega,fun l hl=>by omega⟩
  | k+1,hp=>by
    have ih:=ugs hs k (hp.le (by omega))
    have hsq:∀i j,qG G i j=qG G j i:=fun i j=>by simp only [qG];rw [hs i j]
    have hd0:uD G k≠0:=by have:=hp.uD (show k≤k+1 by omega);omega
    have hdq:gsD (qG G) k≠0:=by rw [←ih.d];exact rat_ne hd0
    have hk:uE G k k k≠0:=by have:=hp k (by omega);omega
    have hek:=ih.e k k (Nat.le_refl _) (Nat.le_refl _)
    have hpk:gsE (qG G) k k k≠0:=fun e=>by rw [e] at hek;exact rat_ne hk (by rw [hek];grind)
    have hpiv:∀l,l<k+1→gsE (qG G) l l l≠0:=fun l hl=>by
      by_cases h:l<k
      · exact ih.p l h
      · have:l=k:=by omega
        subst this;exact hpk
    have hd1:((uD G (k+1):Int):Rat)=gsD (qG G) (k+1):=by
      show ((uE G k k k:Int):Rat)=_
      rw [hek];rfl
    have hex:∀i j,k<i→k<j→∃z:Int,uD G (k+1)*uE G k i j-uE G k i k*uE G k j k=z*uD G k∧(z:Rat)=gsD (qG G) (k+1)*gsE (qG G) (k+1) i j:=by
      intro i j hi hj
      obtain ⟨z,hz⟩:=gs_int (G:=qG G) (fun i j=>⟨G i j,rfl⟩) (k+1) hpiv (show k+1≤i by omega) (show k+1≤j by omega)
      refine ⟨z,?_,hz.symm⟩
      have e1:=ih.e i j (by omega) (by omega)
      have e2:=ih.e i k (by omega) (by omega)
      have e3:=ih.e j k (by omega) (by omega)
      have e4:gsE (qG G) k j k=gsE (qG G) k k j:=gsE_sym hsq k j k
      have:(((uD G (k+1)*uE G k i j-uE G k i k*uE G k j k:Int)):Rat)=((z*uD G k:Int):Rat):=by
        rw [Rat.intCast_sub,Rat.intCast_mul,Rat.intCast_mul,Rat.intCast_mul,hd1,e1,e2,e3,e4,←hz,ih.d]
        simp only [gsD,gsE];grind
      exact_mod_cast this
    refine ⟨hd1,fun i j hi hj=>?_,fun l hl i j h1 h2 h3 h4=>?_,hpiv⟩
    · obtain ⟨z,h1,h2⟩:=hex i j (by omega) (by omega)
      rw [uE_succ,fdiv_ex hd0 h1,h2]
    · by_cases h:l<k
      · exact ih.x l h i j h1 h2 h3 h4
      · have:l=k:=by omega
        subst this
        obtain ⟨z,h5,h6⟩:=hex i j h3 h4
        rw [uE_succ,fdiv_ex hd0 h5,←h5]
def rq (q:Rat):Int×Int:=(q.num,(q.den:Int))
theorem rq_den_pos (q:Rat):0<(rq q).2:=by have:=q.den_pos;simp only [rq];omega
theorem rq_den_ne (q:Rat):(rq q).2≠0:=by have:=rq_den_pos q;omega
abbrev ej:=@rq_den_ne
theorem rq_val (q:Rat):(((rq q).1:Int):Rat)/(((rq q).2:Int):Rat)=q:=by
  rw [←Rat.divInt_eq_div];exact Rat.num_divInt_den q
theorem rmk_rq {n d:Int} (hd:d≠0):rmk n d=rq ((n:Rat)/(d:Rat)):=by
  rw [←Rat.divInt_eq_div]
  simp only [rmk,rq,Rat.num_divInt,Rat.den_divInt,if_neg hd]
  have hg:(0:Int)≤(Int.gcd n d:Int):=by omega
  rw [Int.fdiv_eq_ediv_of_nonneg _ hg,Int.fdiv_eq_ediv_of_nonneg _ hg,Int.mul_comm n,Int.gcd_comm d n]
  refine Prod.ext rfl ?_
  simp only [Int.natCast_ediv]
theorem rq_int (n:Int):rq (n:Rat)=(n,1):=by simp [rq]
theorem rq_add (p q:Rat):rmk ((rq p).1*(rq q).2+(rq q).1*(rq p).2) ((rq p).2*(rq q).2)=rq (p+q):=by
  have h1:=rq_den_ne p;have h2:=rq_den_ne q
  rw [rmk_rq (Int.mul_ne_zero h1 h2)]
  congr 1
  rw [Rat.intCast_add,Rat.intCast_mul,Rat.intCast_mul,Rat.intCast_mul]
  have e1:=rq_val p;have e2:=rq_val q
  have:=rat_ne h1;have:=rat_ne h2
  generalize (((rq p).1:Int):Rat)=a at *;generalize (((rq p).2:Int):Rat)=b at *;generalize (((rq q).1:Int):Rat)=c at *;generalize (((rq q).2:Int):Rat)=d at *
  subst e1 e2;grind
theorem rq_neg (p:Rat):rmk (-(rq p).1) (rq p).2=rq (-p):=by
  have h1:=rq_den_ne p
  rw [rmk_rq h1]
  congr 1
  rw [Rat.intCast_neg]
  have e1:=rq_val p
  have:=rat_ne h1
  generalize (((rq p).1:Int):Rat)=a at *;generalize (((rq p).2:Int):Rat)=b at *
  subst e1;grind
theorem rq_mul (p q:Rat):rmk ((rq p).1*(rq q).1) ((rq p).2*(rq q).2)=rq (p*q):=by
  have h1:=rq_den_ne p;have h2:=rq_den_ne q
  rw [rmk_rq (Int.mul_ne_zero h1 h2)]
  congr 1
  rw [Rat.intCast_mul,Rat.intCast_mul]
  have e1:=rq_val p;have e2:=rq_val q
  have:=rat_ne h1;have:=rat_ne h2
  generalize (((rq p).1:Int):Rat)=a at *;generalize (((rq p).2:Int):Rat)=b at *;generalize (((rq q).1:Int):Rat)=c at *;generalize (((rq q).2:Int):Rat)=d at *
  subst e1 e2;grind
theorem rq_num_ne {q:Rat} (h:q≠0):(rq q).1≠0:=fun e=>h (by
  have:=rq_val q;rw [e] at this;rw [←this]
  have:((0:Int):Rat)=0:=rfl
  rw [this];grind)
theorem rq_div (p:Rat) {q:Rat} (hq:q≠0):rmk ((rq p).1*(rq q).2) ((rq p).2*(rq q).1)=rq (p/q):=by
  have h1:=rq_den_ne p;have h2:=rq_den_ne q;have h3:=rq_num_ne hq
  rw [rmk_rq (Int.mul_ne_zero h1 h3)]
  congr 1
  rw [Rat.intCast_mul,Rat.intCast_mul]
  have e1:=rq_val p;have e2:=rq_val q
  have:=rat_ne h1;have:=rat_ne h2;have:=rat_ne h3
  generalize (((rq p).1:Int):Rat)=a at *;generalize (((rq p).2:Int):Rat)=b at *;generalize (((rq q).1:Int):Rat)=c at *;generalize (((rq q).2:Int):Rat)=d at *
  subst e1 e2;grind
theorem rmk_num_le {n d:Int} (hd:d≠0):(rmk n d).1.natAbs≤n.natAbs:=by
  simp only [rmk]
  have hg:(0:Int)≤(Int.gcd n d:Int):=by omega
  rw [Int.fdiv_eq_ediv_of_nonneg _ hg]
  refine Nat.le_trans (Int.natAbs_ediv_le_natAbs ..) ?_
  rw [Int.natAbs_mul,Int.natAbs_sign,if_neg hd];omega
theorem rmk_den_le {n d:Int} (hd:d≠0):(rmk n d).2.natAbs≤d.natAbs:=by
  simp only [rmk]
  have hg:(0:Int)≤(Int.gcd n d:Int):=by omega
  rw [Int.fdiv_eq_ediv_of_nonneg _ hg]
  refine Nat.le_trans (Int.natAbs_ediv_le_natAbs ..) ?_
  omega
structure RZ (n:Nat) (q:Rat):Prop where
  a:Sz n (rq q).1
  b:Sz n (rq q).2
theorem RZ.up {n m q} (h:RZ n q) (hm:n≤m):RZ m q:=⟨h.a.up hm,h.b.up hm⟩
theorem RZ.neg {n q} (h:RZ n q):RZ n (-q):=by
  refine ⟨?_,?_⟩
  · have:(rq (-q)).1 = -(rq q).1:=rfl
    rw [this];exact h.a.neg
  · exact h.b
theorem RZ.of {k:Nat} {n d:Int} {q:Rat} (hd:d≠0) (h:rmk n d=rq q) (h1:Sz k n) (h2:Sz k d):RZ k q:=
  ⟨h1.le (by rw [←h];exact rmk_num_le hd),h2.le (by rw [←h];exact rmk_den_le hd)⟩
theorem RZ.mul {n m p q} (h:RZ n p) (k:RZ m q):RZ (n+m) (p*q):=
  RZ.of (Int.mul_ne_zero (rq_den_ne p) (rq_den_ne q)) (rq_mul p q) (h.a.mul k.a) (h.b.mul k.b)
theorem RZ.int {n:Nat} {z:Int} (h:Sz (n+1) z):RZ (n+1) (z:Rat):=by
  refine ⟨?_,?_⟩
  · rw [rq_int];exact h
  · rw [rq_int]
    show (1:Int).natAbs<2^(n+1)
    have:=Nat.one_lt_two_pow (n:=n+1) (by omega)
    simp
theorem RZ.frac {n:Nat} {u d:Int} (hd:d≠0) (h1:Sz n u) (h2:Sz n d):RZ n ((u:Rat)/(d:Rat)):=RZ.of hd (rmk_rq hd) h1 h2
end Fw
namespace Fw
open Go Go.Proofs
theorem c_nat_trim (l:List Nat):Fn Tryz.prog 191 [kN.is l] (kN.is (limbs (nval l))):=by
 refine aK Tryz.func191 E E fun m w=>aR (i:=0) E bu fun hB=>aR (i:=0) E ce fun hL=>Cr<|Wa E<|Wn<|aa<|aw<|tl 0 E (y:=(l.take l.length)) (by rw [List.take_length])<|bN (fun (i:Nat)=>i≤l.length∧nval (l.take i)=nval l) (fun (i:Nat)=>[(0,kN.is (l.take i))]) (fun (i:Nat)=>[]) (fun (i:Nat)=>i) l.length ⟨Nat.le_refl _,by rw [List.take_length]⟩ (Z E ai) (au _) ?_
 intro i ⟨hi,hr⟩
 have hlen:(l.take i).length=i:=by simp;omega
 refine aa<|Cr<|Wm E<|Ws (aA E U27)<|Ws (cq E E)<|Wm E ?_
 refine bV 6 E (fun h_t6=>?_)<|fun h_t6=>?_
 ·
  have h_t6':0<i:=by omega
  refine Wg E E (bj E)<|Wg E E (bj E)<|Wg E E (aA E U27)<|Wg E E (bq E E (c:=(((l.take i).length:Int)-1)) (ay (by omega)))<|Wg E E (aT (i-1) E E U27 aP (by omega) (v:=((l.take i).getD (i-1) 0)) (gd 0 (by omega)))<|Wg E E (aV (aO E aP) (bQ _))<|Wg E E (bR E E)<|Ws (ch E E)<|Wn ?_
  refine aB E (fun h_t14=>?_)<|fun h_t14=>?_
  ·
   refine Ck<|aw<|ah<|Wm E<|Wm E<|Ws (aA E U27)<|Ws (bq E E (c:=(((l.take i).length:Int)-1)) (ay (by omega)))<|Ws (O.slH (i-1) E E U27 aP (by omega) (by omega))<|Wa E<|aj<|dq<|tl 0 E (y:=(l.take (i-1))) (take_take1 hi) ?_
   exact bG (i-1) (by omega) ⟨by omega,(fh hi h_t6' h_t14).trans hr⟩ (Z E ai)<|au _
  ·
   refine Ex<|Cr<|Wm E<|Wa E<|Wn<|am<|tl 2 E (y:=(limbs (nval l))) (trim_stop hL hi h_t6' h_t14 hr) ?_
   exact Qd E (ar E ak) ⟨E,E⟩
 ·
  refine cx (b:=false) E E<|cx (b:=false) E E<|cx (b:=false) E E<|cx (b:=false) E E<|cx (b:=false) E E<|cx (b:=false) E E<|cx (b:=false) E E<|Ws (cb E E)<|Wn<|df E<|Ex<|Cr<|Wm E<|Wa E<|Wn<|am<|tl 2 E (y:=(limbs (nval l))) (trim_stop0 hr (by omega)) ?_
  exact Qd E (ar E ak) ⟨E,E⟩
abbrev cW:=@c_nat_trim
theorem c_nat_Norm (l:List Nat):Fn Tryz.prog 270 [kN.is l] (kN.is (limbs (nval l))):=by
 refine aK Tryz.func270 E E fun m w=>aR (i:=0) E bu fun hB=>aR (i:=0) E ce fun hL=>Cr<|Wa E<|Wr<|Wm E<|Ws (f1 cT E (cW l))<|ca 93 kLimb<|bL 0 .n E E E Lr U27 bO (by have:=limbs_len_le hL;simp;omega) fun v1=>Wa E<|Wn<|am<|bJ 0 E (kp 0 E (.hit (i:=2) E (kp 3 E (kp 4 E (.hit (i:=5) E .nil))))) ?_
 exact Qd E (ar E ak) ⟨E,E⟩
theorem c_nat_Cmp (a b:List Nat):Fn Tryz.prog 190 [kN.is a,kN.is b] (kN6.is (cmpI (nval a) (nval b))):=by
 refine aK Tryz.func190 E E fun m w=>Cr<|Wa E<|Wr<|Wm E<|Ws (f1 cT E (cW a))<|Wm E<|Ws (f1 cT E (cW b))<|Wa E<|Wa E<|Wn<|aa<|aa<|aR (i:=0) E bu fun hA=>aR (i:=1) E bu fun hB=>aR (i:=0) E ce fun lA=>aR (i:=1) E ce fun lB=>ah<|Wm E ?_
 refine Ws (aA E U27)<|Wm E<|Ws (aA E U27)<|Ws (bt E E)<|Wn ?_
 refine aB E (fun h_t14=>?_)<|fun h_t14=>?_
 ·
  refine aa<|Cr<|Wm E<|Ws (aA E U27)<|Wm E<|Ws (aA E U27)<|Ws (aS E E)<|Wn ?_
  refine aB E (fun h_t19=>?_)<|fun h_t19=>?_
  ·
   refine Cr<|Wa E<|Wn<|am<|aQ<|aQ<|tl 4 E (y:=(cmpI (nval a) (nval b))) (cmp_len_lt (by omega)) ?_
   exact Qd E (ar E ak) ⟨E,E⟩
  ·
   refine Ck<|Cr<|Wa E<|Wn<|am<|aQ<|tl 4 E (y:=(cmpI (nval a) (nval b))) (cmp_len_gt (by omega)) ?_
   exact Qd E (ar E ak) ⟨E,E⟩
 ·
  refine Ck<|aa<|Cr<|Wm E<|Ws (aA E U27)<|Ws (bq E E (c:=(((limbs (nval a)).length:Int)-1)) (ay (by omega)))<|Wa E<|Wn<|aw<|bN (fun (i:Nat)=>i≤(limbs (nval a)).length∧(limbs (nval a)).drop i=(limbs (nval b)).drop i) (fun (i:Nat)=>[(0,kN.is (limbs (nval a))),(1,kN.is (limbs (nval b))),(5,kN6.is ((i:Int)-1))]) (fun (i:Nat)=>[]) (fun (i:Nat)=>i) ((limbs (nval a)).length) ⟨Nat.le_refl _,cmp_drop (by omega)⟩ (Z E (Z E (ao E (ag (y:=((((limbs (nval a)).length):Nat):Int)-1) (by omega)) ai))) (au _) ?_
  intro i ⟨hi,hd⟩
  refine aa<|Cr<|Wm E<|Ws (cR E E)<|Wn ?_
  refine aB E (fun h_t24=>?_)<|fun h_t24=>?_
  ·
   refine Ck<|aa<|aw<|aa ?_
   refine ba (Γ:=[.fr (kN.is (limbs (nval a))),.fr (kN6.is ((i:Int)-1)),.fr (VP.pim kLimb ((limbs (nval a)).getD (i-1) 0)),.fr ((kInt .u32).is (((limbs (nval a)).getD (i-1) 0):Int)),.fr (kN.is (limbs (nval b))),.fr (kN6.is ((i:Int)-1)),.fr (VP.pim kLimb ((limbs (nval b)).getD (i-1) 0)),.fr ((kInt .u32).is (((limbs (nval b)).getD (i-1) 0):Int)),.fr (kBool.is (decide ((((limbs (nval a)).getD (i-1) 0):Int)≠(((limbs (nval b)).getD (i-1) 0):Int))))]) (om E E (om E E (J E (fun N=>aT (i-1) E E U27 aP (by omega) (v:=((limbs (nval a)).getD (i-1) 0)) (gd 0 (by omega))) (J E (fun N=>aV (aO E aP) (bQ _)) (om E E (om E E (J E (fun N=>aT (i-1) E E U27 aP (by omega) (v:=((limbs (nval b)).getD (i-1) 0)) (gd 0 (by omega))) (J E (fun N=>aV (aO E aP) (bQ _)) (J E (fun N=>bt E E) oz)))))))))<|fun σ=>?_
   refine Wn ?_
   refine aB E (fun h_t35=>?_)<|fun h_t35=>?_
   ·
    refine aa<|aa ?_
    refine ba (Γ:=[.fr (kN.is (limbs (nval a))),.fr (kN6.is ((i:Int)-1)),.fr (VP.pim kLimb ((limbs (nval a)).getD (i-1) 0)),.fr ((kInt .u32).is (((limbs (nval a)).getD (i-1) 0):Int)),.fr (kN.is (limbs (nval b))),.fr (kN6.is ((i:Int)-1)),.fr (VP.pim kLimb ((limbs (nval b)).getD (i-1) 0)),.fr ((kInt .u32).is (((limbs (nval b)).getD (i-1) 0):Int)),.fr (kBool.is (decide ((((limbs (nval a)).getD (i-1) 0):Int)<(((limbs (nval b)).getD (i-1) 0):Int))))]) (om E E (om E E (J E (fun N=>aT (i-1) E E U27 aP (by omega) (v:=((limbs (nval a)).getD (i-1) 0)) (gd 0 (by omega))) (J E (fun N=>aV (aO E aP) (bQ _)) (om E E (om E E (J E (fun N=>aT (i-1) E E U27 aP (by omega) (v:=((limbs (nval b)).getD (i-1) 0)) (gd 0 (by omega))) (J E (fun N=>aV (aO E aP) (bQ _)) (J E (fun N=>aS E E) oz)))))))))<|fun σ=>?_
    refine Wn ?_
    refine aB E (fun h_t44=>?_)<|fun h_t44=>?_
    ·
     refine Cr<|Wa E<|Wn<|am<|aQ<|bE<|aQ<|aQ<|bE<|aQ<|tl 4 E (y:=(cmpI (nval a) (nval b))) (cmp_at_lt (by omega) (by omega) hd (by omega)) ?_
     exact Qd E (ar E ak) ⟨E,E⟩
    ·
     refine Ck<|Cr<|Wa E<|Wn<|am<|bE<|aQ<|aQ<|bE<|aQ<|tl 4 E (y:=(cmpI (nval a) (nval b))) (cmp_at_gt (by omega) (by omega) hd (by omega) (by omega)) ?_
     exact Qd E (ar E ak) ⟨E,E⟩
   ·
    refine cc<|Qb<|ah<|Wm E<|Ws (bq E E (c:=(((i:Int)-1)-1)) (ay (by omega)))<|Wa E<|aj ?_
    exact bG (i-1) (by omega) ⟨by omega,cmp_down (by omega) hi (by omega) hd (by omega)⟩ (Z E (Z E (ao E (ag (y:=(((i-1):Nat):Int)-1) (by omega)) ai)))<|au _
  ·
   refine Ex<|Cr<|Wa E<|Wn<|am<|tl 4 E (y:=(cmpI (nval a) (nval b))) (cmp_at_eq (i:=i) (by omega) hd) ?_
   exact Qd E (ar E ak) ⟨E,E⟩
abbrev fk:=@c_nat_Cmp
theorem c_bits_Len32 (n:Nat):Fn Tryz.prog 192 [kLimb.is n] (kN6.is (bitlen n:Int)):=by
 refine aK Tryz.func192 E E fun m w=>aR (i:=0) E limb_lt fun hn=>cC (q:=(kInt .u32).is (n:Int)) 0 E (bQ _)<|Cr<|Wa E<|Wn<|aa<|Cr<|Wm E<|Ws (cR E E)<|Wn ?_
 refine aB E (fun h_t4=>?_)<|fun h_t4=>?_
 ·
  refine Cr<|Wm E<|Ws (cP E E (by omega) (c:=((n/2^16:Nat):Int)) (cQ 16 E E (by decide)))<|Wa E<|Wn<|ah<|Wa E<|Wn<|aa<|Cr<|Wm E<|Ws (cR E E)<|Wn ?_
  refine aB E (fun h_t8=>?_)<|fun h_t8=>?_
  ·
   refine Cr<|Wm E<|Ws (cP E E (by omega) (c:=((n/2^16/2^8:Nat):Int)) (cQ 8 E E (by decide)))<|Wa E<|Wn<|ah<|Wm E<|Ws (aI E E (c:=(16+8)) (ay (by omega)))<|Wa E<|Wn<|aa ?_
   have e16:=@bitlen_shift n 16
   have e8:=@bitlen_shift n 8
   have e24:=@bitlen_shift (n/2^16) 8
   have l0:=@bitlen_le n 8
   have l1:=@bitlen_le (n/2^16) 8
   have l2:=@bitlen_le (n/2^8) 8
   have l3:=@bitlen_le (n/2^16/2^8) 8
   refine ah<|Wm E<|Wm E<|Ws (bb E U93 U5 (c:=((n/2^16/2^8:Nat):Int)) (wr8 (by omega)))<|Ws (O.ixS (N:=256) bitlen (n/2^16/2^8:Nat) E U9 E len8 (by omega))<|Ws (bb E U5 U3 (c:=(bitlen (n/2^16/2^8:Nat):Int)) (ay (by omega)))<|Ws (aI E E (c:=((16+8)+(bitlen (n/2^16/2^8:Nat):Int))) (ay (by omega)))<|Wa E<|Wn<|am ?_
   exact Qd E (cz E (ag (y:=(bitlen n:Int)) (by omega)) ak) ⟨E,E⟩
  ·
   refine Ck<|aa ?_
   have e16:=@bitlen_shift n 16
   have e8:=@bitlen_shift n 8
   have e24:=@bitlen_shift (n/2^16) 8
   have l0:=@bitlen_le n 8
   have l1:=@bitlen_le (n/2^16) 8
   have l2:=@bitlen_le (n/2^8) 8
   have l3:=@bitlen_le (n/2^16/2^8) 8
   refine ah<|Wm E<|Wm E<|Ws (bb E U93 U5 (c:=((n/2^16:Nat):Int)) (wr8 (by omega)))<|Ws (O.ixS (N:=256) bitlen (n/2^16:Nat) E U9 E len8 (by omega))<|Ws (bb E U5 U3 (c:=(bitlen (n/2^16:Nat):Int)) (ay (by omega)))<|Ws (aI E E (c:=(16+(bitlen (n/2^16:Nat):Int))) (ay (by omega)))<|Wa E<|Wn<|am ?_
   exact Qd E (cz E (ag (y:=(bitlen n:Int)) (by omega)) ak) ⟨E,E⟩
 ·
  refine Ck<|aa<|Cr<|Wm E<|Ws (cR E E)<|Wn ?_
  refine aB E (fun h_t8=>?_)<|fun h_t8=>?_
  ·
   refine Cr<|Wm E<|Ws (cP E E (by omega) (c:=((n/2^8:Nat):Int)) (cQ 8 E E (by decide)))<|Wa E<|Wn<|ah<|Wm E<|Ws (aI E E (c:=(0+8)) (ay (by omega)))<|Wa E<|Wn<|aa ?_
   have e16:=@bitlen_shift n 16
   have e8:=@bitlen_shift n 8
   have e24:=@bitlen_shift (n/2^16) 8
   have l0:=@bitlen_le n 8
   have l1:=@bitlen_le (n/2^16) 8
   have l2:=@bitlen_le (n/2^8) 8
   have l3:=@bitlen_le (n/2^16/2^8) 8
   refine ah<|Wm E<|Wm E<|Ws (bb E U93 U5 (c:=((n/2^8:Nat):Int)) (wr8 (by omega)))<|Ws (O.ixS (N:=256) bitlen (n/2^8:Nat) E U9 E len8 (by omega))<|Ws (bb E U5 U3 (c:=(bitlen (n/2^8:Nat):Int)) (ay (by omega)))<|Ws (aI E E (c:=((0+8)+(bitlen (n/2^8:Nat):Int))) (ay (by omega)))<|Wa E<|Wn<|am ?_
   exact Qd E (cz E (ag (y:=(bitlen n:Int)) (by omega)) ak) ⟨E,E⟩
  ·
   refine Ck<|aa ?_
   have e16:=@bitlen_shift n 16
   have e8:=@bitlen_shift n 8
   have e24:=@bitlen_shift (n/2^16) 8
   have l0:=@bitlen_le n 8
   have l1:=@bitlen_le (n/2^16) 8
   have l2:=@bitlen_le (n/2^8) 8
   have l3:=@bitlen_le (n/2^16/2^8) 8
   refine ah<|Wm E<|Wm E<|Ws (bb E U93 U5 (c:=(n:Int)) (wr8 (by omega)))<|Ws (O.ixS (N:=256) bitlen n E U9 E len8 (by omega))<|Ws (bb E U5 U3 (c:=(bitlen n:Int)) (ay (by omega)))<|Ws (aI E E (c:=(0+(bitlen n:Int))) (ay (by omega)))<|Wa E<|Wn<|am ?_
   exact Qd E (cz E (ag (y:=(bitlen n:Int)) (by omega)) ak) ⟨E,E⟩
theorem c_bits_LeadingZeros32 (n:Nat):Fn Tryz.prog 272 [kLimb.is n] (kN6.is (32-(bitlen n:Int))):=by
 refine aK Tryz.func272 E E fun m w=>aR (i:=0) E limb_lt fun hn=>?_
 have hb:=@bitlen_le n 32 hn
 refine Cr<|Wa E<|Wr<|Wm E<|Ws (f1 fn192 E (c_bits_Len32 n))<|Ws (bq E E (c:=(32-(bitlen n:Int))) (ay (by omega)))<|Wa E<|Wn<|am ?_
 exact Qd E (ar E ak) ⟨E,E⟩
theorem c_nat_Bits (l:List Nat):Fn Tryz.prog 120 [kN.is l] (kN6.is (bitlen (nval l):Int)):=by
 refine aK Tryz.func120 E E fun m w=>Cr<|Wa E<|Wr<|Wm E<|Ws (f1 cT E (cW l))<|Wa E<|Wn<|aa<|aa<|aR (i:=0) E bu fun hB=>aR (i:=0) E ce fun hL=>ah<|Wm E<|Ws (aA E U27)<|Ws (bR E E)<|Wn ?_
 refine aB E (fun h_t7=>?_)<|fun h_t7=>?_
 ·
  refine Cr<|Wa E<|Wn<|am<|aQ<|tl 2 E (y:=(bitlen (nval l):Int)) (by rw [bitlen0 (by omega)];rfl) ?_
  exact Qd E (ar E ak) ⟨E,E⟩
 ·
  refine Ck<|aa ?_
  have hx:=getD_lt hL ((limbs (nval l)).length-1)
  have hb:=@bitlen_le ((limbs (nval l)).getD ((limbs (nval l)).length-1) 0) 32 hx
  have hbits:=@bits_limbs (nval l) (by intro h;rw [h,limbs_zero] at h_t7;simp at h_t7)
  refine ah<|Wm E<|Ws (aA E U27)<|Ws (bq E E (c:=(((limbs (nval l)).length:Int)-1)) (ay (by omega)))<|Ws (dn E E (c:=(32*(((limbs (nval l)).length:Int)-1))) (ay (by omega)))<|Wm E<|Wm E<|Ws (aA E U27)<|Ws (bq E E (c:=(((limbs (nval l)).length:Int)-1)) (ay (by omega)))<|Ws (aT ((limbs (nval l)).length-1) E E U27 aP (by omega) (v:=((limbs (nval l)).getD ((limbs (nval l)).length-1) 0)) (gd 0 (by omega)))<|Ws (aV (aO E aP) (bQ _))<|Ws (aF fn192 (aq E (bF (x:=((limbs (nval l)).getD ((limbs (nval l)).length-1) 0)) (by omega)) ax) (c_bits_Len32 ((limbs (nval l)).getD ((limbs (nval l)).length-1) 0)))<|Ws (aI E E (c:=((32*(((limbs (nval l)).length:Int)-1))+(bitlen ((limbs (nval l)).getD ((limbs (nval l)).length-1) 0):Int))) (ay (by omega)))<|Wa E<|Wn<|am ?_
  exact Qd E (cz E (ag (y:=(bitlen (nval l):Int)) (by omega)) ak) ⟨E,E⟩
theorem c_nat_Add (a b:List Nat) (hA:a.length<1099511627776) (hB:b.length<1099511627776):Fn Tryz.prog 242 [kN.is a,kN.is b] (kN.is (limbs (nval a+nval b))):=by
 refine aK Tryz.func242 E E fun m w=>aR (i:=0) E ce fun lA=>aR (i:=1) E ce fun lB=>Cr<|Wa E<|Wn ?_
 refine CW.cut2 (fun (x:List Nat) (y:List Nat)=>y.length≤x.length∧x.length<1099511627776∧Lims x∧Lims y∧nval x+nval y=nval a+nval b) (fun (x:List Nat) (y:List Nat)=>[(0,kN.is x),(1,kN.is y)]) (fun (x:List Nat) (y:List Nat)=>[]) ?_ ?_
 ·
  refine Cr<|Wm E<|Ws (aA E U27)<|Wm E<|Ws (aA E U27)<|Ws (aS E E)<|Wn ?_
  refine aB E (fun h_t12=>?_)<|fun h_t12=>?_
  ·
   refine ah<|Wm E<|Wm E<|Wa E<|Wa E<|aj ?_
   exact eK b a ⟨by omega,hB,lB,lA,Nat.add_comm _ _⟩ (Z E (Z E ai))<|au _
  ·
   refine cc ?_
   exact eK a b ⟨by omega,hA,lA,lB,E⟩ (Z E (Z E ai))<|au _
 intro x y ⟨hlen,hlt,l1,l2,hsum⟩
 refine Cr<|Wm E<|Ws (aA E U27)<|Ws (aI E E (c:=((x.length:Int)+1)) (ay (by omega)))<|bp ((((x.length:Int)+1)).toNat) .n E E (by omega) (by omega) U27 bO dC fun v1=>Wa E<|Wr<|Wa E<|Wn<|aa<|Cr<|Wm E<|Ws (aA E U27)<|Wm E<|Wn<|aw<|da (fun (r:List Nat) (c:Nat) (v:Value)=>r.length≤x.length∧AddR x y r c) (fun (r:List Nat) (c:Nat) (v:Value)=>[(0,kN.is x),(1,kN.is y),(5,VP.ex v),(6,(kInt .u64).is (c:Int)),(20,kN6.is (x.length:Int)),(21,kN6.is (r.length:Int))]) (fun (r:List Nat) (c:Nat) (v:Value)=>[OB.row v 93 kLimb (fil (x.length+1) r)]) (fun (r:List Nat) (c:Nat) (v:Value)=>x.length-r.length) [] 0 v1 ⟨Nat.zero_le _,addR_0 x y⟩ (Z E (Z E (Z E (ao E (ag (y:=(0:Int)) (by omega)) (Z E (ao E (ag (y:=([].length:Int)) (by simp)) ai)))))) (aW (.keepLe (a9 (fil_nil _)) .nil)) ?_
 intro r c v ⟨hr,hS⟩
 have hc:=hS.2.1
 have hx:=getD_lt l1 r.length
 have hy:=getD_lt l2 r.length
 have hfl:=fil_len (n:=x.length+1) (r:=r) (by omega)
 refine Cr<|Ws (aS E E)<|Wn<|aa ?_
 refine aB E (fun h_t22=>?_)<|fun h_t22=>?_
 ·
  refine Ck<|aa<|aw<|Cr<|Wm E<|Wa E<|Wr<|Wm E<|Wm E<|Wm E<|Ws (aT r.length E E U27 aP E (v:=(x.getD r.length 0)) (gd 0 (by omega)))<|Ws (aV (aO E aP) (bQ _))<|Ws (bb E U93 U178 (c:=((x.getD r.length 0):Int)) (bA (by omega)))<|Ws (aI E E (c:=((c:Int)+((x.getD r.length 0):Int))) (bA (by omega)))<|Wa E<|Wn<|aa<|aa ?_
  refine ah<|Wm E<|Wm E<|Ws (aA E U27)<|Ws (aS E E)<|Wn ?_
  refine aB E (fun h_t34=>?_)<|fun h_t34=>?_
  ·
   refine ah<|Wm E<|Wm E<|Wm E<|Ws (aT r.length E E U27 aP E (v:=(y.getD r.length 0)) (gd 0 (by omega)))<|Ws (aV (aO E aP) (bQ _))<|Ws (bb E U93 U178 (c:=((y.getD r.length 0):Int)) (bA (by omega)))<|Ws (aI E E (c:=(((c:Int)+((x.getD r.length 0):Int))+((y.getD r.length 0):Int))) (bA (by omega)))<|Wa E<|Wr<|Wm E<|Wm E<|Wm E<|Ws (bb E U178 U93 (c:=(((c+x.getD r.length 0+y.getD r.length 0)%4294967296:Nat):Int)) (dg (by omega)))<|Ws (aY (k:=kLimb) (xs:=fil (x.length+1) r) (n:=(r.length:Int)) r.length E E (ac 0 E) U27 aP E (by omega))<|aG .n (cd 0 r.length E E Li E (y0:=((fil (x.length+1) r).getD r.length 0)) (gd 0 (by omega)) aP E (bF (x:=((c+x.getD r.length 0+y.getD r.length 0)%4294967296:Nat)) (by omega)))<|Wn<|ah<|Wm E<|Ws (cP E E (by omega) (c:=(((c+x.getD r.length 0+y.getD r.length 0)/2^32:Nat):Int)) (cQ 32 (by omega) E (by decide))) ?_
   refine Wa E<|aj<|Qb<|ah<|Ws (aI E E (c:=((r.length:Int)+1)) (ay (by omega)))<|Wm E<|aj ?_
   exact cM (r++[(c+x.getD r.length 0+y.getD r.length 0)%4294967296]) ((c+x.getD r.length 0+y.getD r.length 0)/2^32) v (by simp;omega) ⟨by simp;omega,addR_s l1 l2 hS⟩ (Z E (Z E (Z E (ao E (ag (y:=((((c+x.getD r.length 0+y.getD r.length 0)/2^32):Nat):Int)) (by omega)) (Z E (ao E (ag (y:=((r++[(c+x.getD r.length 0+y.getD r.length 0)%4294967296]).length:Int)) (by simp)) ai))))))<|aW<|.keepLe (a9 (eI (by omega))) .nil
  ·
   have hy0:=getD_out (l:=y) (i:=r.length) (by omega)
   refine Ck<|Cr<|Wm E<|Wm E<|Wm E<|Ws (bb E U178 U93 (c:=(((c+x.getD r.length 0+y.getD r.length 0)%4294967296:Nat):Int)) (dg (by omega)))<|Ws (aY (k:=kLimb) (xs:=fil (x.length+1) r) (n:=(r.length:Int)) r.length E E (ac 0 E) U27 aP E (by omega))<|aG .n (cd 0 r.length E E Li E (y0:=((fil (x.length+1) r).getD r.length 0)) (gd 0 (by omega)) aP E (bF (x:=((c+x.getD r.length 0+y.getD r.length 0)%4294967296:Nat)) (by omega)))<|Wn<|ah<|Wm E<|Ws (cP E E (by omega) (c:=(((c+x.getD r.length 0+y.getD r.length 0)/2^32:Nat):Int)) (cQ 32 (by omega) E (by decide)))<|Wa E<|aj<|Qb<|ah<|Ws (aI E E (c:=((r.length:Int)+1)) (ay (by omega)))<|Wm E<|aj ?_
   exact cM (r++[(c+x.getD r.length 0+y.getD r.length 0)%4294967296]) ((c+x.getD r.length 0+y.getD r.length 0)/2^32) v (by simp;omega) ⟨by simp;omega,addR_s l1 l2 hS⟩ (Z E (Z E (Z E (ao E (ag (y:=((((c+x.getD r.length 0+y.getD r.length 0)/2^32):Nat):Int)) (by omega)) (Z E (ao E (ag (y:=((r++[(c+x.getD r.length 0+y.getD r.length 0)%4294967296]).length:Int)) (by simp)) ai))))))<|aW<|.keepLe (a9 (eI (by omega))) .nil
 ·
  refine Ex<|aa ?_
  have hrx:r.length=x.length:=by omega
  refine ah<|Wm E<|Wm E<|Ws (aA E U27)<|Wm E<|Ws (bb E U178 U93 (c:=(c:Int)) (cN (by omega)))<|Ws (aY (k:=kLimb) (xs:=fil (x.length+1) r) (n:=(x.length:Int)) x.length E E (ac 0 E) U27 aP E (by omega))<|aG .n (cd 0 x.length E E Li E (y0:=((fil (x.length+1) r).getD x.length 0)) (gd 0 (by omega)) aP E (bF (x:=c) (by omega)))<|Wn<|aa<|dJ (b':=OB.row v 93 kLimb (r++[c])) 0 E (a9 (by rw [←hrx];exact fil_set_end (by omega)))<|ah<|Wm E<|bJ 0 E (kp 0 E (kp 1 E (.hit (i:=5) E (kp 6 E (kp 20 E (kp 21 E (kp 22 E (.hit (i:=50) E (kp 51 E (kp 52 E (kp 53 E (kp 54 E (kp 55 E (.hit (i:=56) E .nil))))))))))))))<|Ws (f1 cT E (cW (r++[c])))<|Wa E<|Wn<|am<|tl 4 E (y:=(limbs (nval a+nval b))) (by rw [addR_end hS hrx hlen,hsum]) ?_
  exact Qd E (ar E ak) ⟨E,E⟩
theorem c_nat_less (x y:List Nat) (hl:y.length≤x.length) (hle:nval y≤nval x):Fn Tryz.prog 267 [kN.is x,kN.is y] (kN.is (limbs (nval x-nval y))):=by
 refine aK Tryz.func267 E E fun m w=>aR (i:=0) E ce fun l1=>aR (i:=1) E ce fun l2=>aR (i:=0) E bu fun hB=>Cr<|Wa E<|Wr<|Wm E<|Ws (aA E U27)<|bp x.length .n E E E (by omega) U27 bO dC fun v1=>Wa E<|Wr<|Wa E<|Wn<|aa<|aa ?_
 refine ah<|Wm E<|Ws (aA E U27)<|Wm E<|Wn<|aw<|da (fun (r:List Nat) (c:Nat) (v:Value)=>r.length≤x.length∧LessR x y r c) (fun (r:List Nat) (c:Nat) (v:Value)=>[(0,kN.is x),(1,kN.is y),(5,VP.ex v),(6,(kInt .u64).is (c:Int)),(13,kN6.is (x.length:Int)),(14,kN6.is (r.length:Int))]) (fun (r:List Nat) (c:Nat) (v:Value)=>[OB.row v 93 kLimb (fil x.length r)]) (fun (r:List Nat) (c:Nat) (v:Value)=>x.length-r.length) [] 0 v1 ⟨Nat.zero_le _,lessR_0 x y⟩ (Z E (Z E (Z E (ao E (ag (y:=(0:Int)) (by omega)) (Z E (ao E (ag (y:=([].length:Int)) (by simp)) ai)))))) (aW (.keepLe (a9 (fil_nil _)) .nil)) ?_
 intro r c v ⟨hr,hA⟩
 have hc:=hA.2.1
 have hx:=getD_lt l1 r.length
 have hy:=getD_lt l2 r.length
 have hfl:=fil_len (n:=x.length) (r:=r) (by omega)
 refine Cr<|Ws (aS E E)<|Wn<|aa ?_
 refine aB E (fun h_t15=>?_)<|fun h_t15=>?_
 ·
  refine Ck<|aa<|aw<|Cr<|Wm E<|Wa E<|Wr<|Wm E<|Wm E<|Ws (aT r.length E E U27 aP E (v:=(x.getD r.length 0)) (gd 0 (by omega)))<|Ws (aV (aO E aP) (bQ _))<|Ws (bb E U93 U178 (c:=((x.getD r.length 0):Int)) (bA (by omega)))<|Wm E<|Ws (bq E E (c:=((lessV c (x.getD r.length 0) 0:Nat):Int)) (less_sub1 hc hx))<|Wa E<|Wn<|aa<|aa ?_
  refine ah<|Wm E<|Wm E<|Ws (aA E U27)<|Ws (aS E E)<|Wn ?_
  refine aB E (fun h_t27=>?_)<|fun h_t27=>?_
  ·
   refine ah<|Wm E<|Wm E<|Wm E<|Ws (aT r.length E E U27 aP E (v:=(y.getD r.length 0)) (gd 0 (by omega)))<|Ws (aV (aO E aP) (bQ _))<|Ws (bb E U93 U178 (c:=((y.getD r.length 0):Int)) (bA (by omega)))<|Ws (bq E E (c:=((lessV c (x.getD r.length 0) (y.getD r.length 0):Nat):Int)) (less_sub2 hc hx hy))<|Wa E<|Wr<|Wm E<|Wm E<|Wm E<|Ws (bb E U178 U93 (c:=((lessV c (x.getD r.length 0) (y.getD r.length 0)%4294967296:Nat):Int)) (dg E))<|Ws (aY (k:=kLimb) (xs:=fil x.length r) (n:=(r.length:Int)) r.length E E (ac 0 E) U27 aP E (by omega))<|aG .n (cd 0 r.length E E Li E (y0:=((fil x.length r).getD r.length 0)) (gd 0 (by omega)) aP E (bF (x:=(lessV c (x.getD r.length 0) (y.getD r.length 0)%4294967296:Nat)) (by omega)))<|Wn<|ah<|Wm E<|Ws (cP E E (by omega) (c:=((lessV c (x.getD r.length 0) (y.getD r.length 0)/2^63:Nat):Int)) (cQ 63 E E (by decide))) ?_
   refine Wa E<|aj<|Qb<|ah<|Ws (aI E E (c:=((r.length:Int)+1)) (ay (by omega)))<|Wm E<|aj ?_
   exact cM (r++[lessV c (x.getD r.length 0) (y.getD r.length 0)%4294967296]) (lessV c (x.getD r.length 0) (y.getD r.length 0)/2^63) v (by simp;omega) ⟨by simp;omega,lessR_s l1 l2 hA⟩ (Z E (Z E (Z E (ao E (ag (y:=(((lessV c (x.getD r.length 0) (y.getD r.length 0)/2^63):Nat):Int)) (by omega)) (Z E (ao E (ag (y:=((r++[lessV c (x.getD r.length 0) (y.getD r.length 0)%4294967296]).length:Int)) (by simp)) ai))))))<|aW<|.keepLe (a9 (eI (by omega))) .nil
  ·
   have hy0:=getD_out (l:=y) (i:=r.length) (by omega)
   refine tl 8 E (y:=((lessV c (x.getD r.length 0) (y.getD r.length 0):Nat):Int)) (by rw [hy0])<|Ck<|Cr<|Wm E<|Wm E<|Wm E<|Ws (bb E U178 U93 (c:=((lessV c (x.getD r.length 0) (y.getD r.length 0)%4294967296:Nat):Int)) (dg E))<|Ws (aY (k:=kLimb) (xs:=fil x.length r) (n:=(r.length:Int)) r.length E E (ac 0 E) U27 aP E (by omega))<|aG .n (cd 0 r.length E E Li E (y0:=((fil x.length r).getD r.length 0)) (gd 0 (by omega)) aP E (bF (x:=(lessV c (x.getD r.length 0) (y.getD r.length 0)%4294967296:Nat)) (by omega)))<|Wn<|ah<|Wm E<|Ws (cP E E (by omega) (c:=((lessV c (x.getD r.length 0) (y.getD r.length 0)/2^63:Nat):Int)) (cQ 63 E E (by decide)))<|Wa E<|aj<|Qb<|ah<|Ws (aI E E (c:=((r.length:Int)+1)) (ay (by omega)))<|Wm E<|aj ?_
   exact cM (r++[lessV c (x.getD r.length 0) (y.getD r.length 0)%4294967296]) (lessV c (x.getD r.length 0) (y.getD r.length 0)/2^63) v (by simp;omega) ⟨by simp;omega,lessR_s l1 l2 hA⟩ (Z E (Z E (Z E (ao E (ag (y:=(((lessV c (x.getD r.length 0) (y.getD r.length 0)/2^63):Nat):Int)) (by omega)) (Z E (ao E (ag (y:=((r++[lessV c (x.getD r.length 0) (y.getD r.length 0)%4294967296]).length:Int)) (by simp)) ai))))))<|aW<|.keepLe (a9 (eI (by omega))) .nil
 ·
  refine Ex<|aa ?_
  have hrx:r.length=x.length:=by omega
  refine dJ (b':=OB.row v 93 kLimb r) 0 E (a9 (fil_full hrx))<|ah<|Wm E<|bJ 0 E (kp 0 E (kp 1 E (.hit (i:=5) E (kp 6 E (kp 13 E (kp 14 E (kp 15 E (.hit (i:=43) E .nil))))))))<|Ws (f1 cT E (cW r))<|Wa E<|Wn<|am<|tl 4 E (y:=(limbs (nval x-nval y))) (by rw [lessR_end hA hrx hl hle]) ?_
  exact Qd E (ar E ak) ⟨E,E⟩
theorem c_nat_Sub (a b:List Nat):Fn Tryz.prog 243 [kN.is a,kN.is b] (VP.tup [kN.is (if nval a<nval b then [] else limbs (nval a-nval b)),kN6.is (if nval a<nval b then 10 else 0)]):=by
 refine aK Tryz.func243 E E fun m w=>Cr<|Wa E<|Wa E<|Wn<|aa<|Cr<|Wm E<|Wm E<|Ws (f2 fn190 E E (fk a b))<|Ws (aS E E)<|Wn ?_
 refine aB E (fun h_t9=>?_)<|fun h_t9=>?_
 ·
  refine Cr<|Wa E<|Wa E<|Wn<|am<|aQ<|cC (q:=kN.is ([]:List Nat)) 4 E (cL _)<|tl 4 E (y:=(if nval a<nval b then [] else limbs (nval a-nval b))) (by rw [if_pos (cmpI_lt h_t9)])<|tl 5 E (y:=(if nval a<nval b then 10 else 0)) (by rw [if_pos (cmpI_lt h_t9)]) ?_
  exact Qd E (ar E (ar E ak)) ⟨E,E⟩
 ·
  refine Ck<|Cr<|Wm E<|Ws (f1 cT E (cW a))<|Wm E<|Ws (f1 cT E (cW b))<|Ws (f2 fn267 E E (c_nat_less (limbs (nval a)) (limbs (nval b)) (limbs_mono (by have:=cmpI_ge h_t9;omega)) (by rw [nval_limbs,nval_limbs];exact cmpI_ge h_t9)))<|Wa E<|Wa E<|Wn<|am<|tl 4 E (y:=(if nval a<nval b then [] else limbs (nval a-nval b))) (by rw [if_neg (Nat.not_lt.2 (cmpI_ge h_t9)),nval_limbs,nval_limbs])<|tl 5 E (y:=(if nval a<nval b then 10 else 0)) (by rw [if_neg (Nat.not_lt.2 (cmpI_ge h_t9))]) ?_
  exact Qd E (ar E (ar E ak)) ⟨E,E⟩
theorem c_zint_Sign (z:Int):Fn Tryz.prog 57 [kZ.is z] (kN6.is z.sign):=by
 refine aK Tryz.func57 E E fun m w=>cG 0 E fun y y_v y_n y_l=>Cr<|a6 .n E fun b1=>Wa E<|Wn<|aa<|aw<|Cr<|Ws (aM E bK E)<|Ws (ae E (ac 0 E) (aN Li) bM E)<|Ws (f1 fn120 E (c_nat_Bits y.2))<|Ws (bR E E)<|Wa E<|Wn ?_
 refine aB E (fun h_t3=>?_)<|fun h_t3=>?_
 ·
  refine Cr<|Wa E<|Wn<|am<|bE<|aQ<|tl 2 E (y:=z.sign) (by rw [←y_v];exact sign_0 h_t3) ?_
  exact Qd E (ar E ak) ⟨E,E⟩
 ·
  refine Cr<|Ws (aM E cw E)<|Ws (ae E (ac 0 E) (aU Li) cy E)<|Wa E<|Wn ?_
  refine dx E (fun h_t8=>?_)<|fun h_t8=>?_
  ·
   refine Cr<|Wa E<|Wn<|am<|bE<|aQ<|tl 2 E (y:=z.sign) (by rw [←y_v];exact sign_neg h_t3 h_t8) ?_
   exact Qd E (ar E ak) ⟨E,E⟩
  ·
   refine cc<|Qb<|Cr<|Wa E<|Wn<|am<|tl 2 E (y:=z.sign) (by rw [←y_v];exact sign_pos h_t3 h_t8) ?_
   exact Qd E (ar E ak) ⟨E,E⟩
abbrev dk:=@c_zint_Sign
theorem c_zint_Bits (z:Int):Fn Tryz.prog 188 [kZ.is z] (kN6.is (bitlen z.natAbs:Int)):=by
 refine aK Tryz.func188 E E fun m w=>cG 0 E fun y y_v y_n y_l=>Cr<|a6 .n E fun b1=>Wa E<|Wr<|Ws (aM E bK E)<|Ws (ae E (ac 0 E) (aN Li) bM E)<|Ws (f1 fn120 E (c_nat_Bits y.2))<|Wa E<|Wn<|am<|tl 2 E (y:=(bitlen z.natAbs:Int)) (by rw [←y_v,ival_abs]) ?_
 exact Qd E (ar E ak) ⟨E,E⟩
theorem c_zint_made (b:Bool) (l:List Nat):Fn Tryz.prog 137 [kBool.is b,kN.is l] (kC.is (ival (b,l))):=by
 refine aK Tryz.func137 E E fun m w=>aR (i:=1) E bu fun hB=>aR (i:=1) E ce fun hL=>Cr<|a8 .n aZ fun b1=>Wr<|Wm E<|Ws (aA E U27)<|Wa E<|Wn<|aa<|aw<|bN (fun (i:Nat)=>i≤l.length∧nval (l.take i)=nval l) (fun (i:Nat)=>[(0,kBool.is b),(1,kN.is l),(4,VP.pt b1 0),(5,kN6.is (i:Int))]) (fun (i:Nat)=>[OB.box b1 29 kC 0]) (fun (i:Nat)=>i) l.length ⟨Nat.le_refl _,by rw [List.take_length]⟩ (Z E (Z E (Z E (ao E (ag (y:=((l.length:Nat):Int)) (by omega)) ai)))) (au _) ?_
 intro i ⟨hi,hr⟩
 refine aa<|Cr<|Wm E<|Ws (cq E E)<|Wm E ?_
 refine bV 11 E (fun h_t11=>?_)<|fun h_t11=>?_
 ·
  have h_t11':0<i:=by omega
  refine Wg E E (bj E)<|Wg E E (bj E)<|Wg E E (bq E E (c:=((i:Int)-1)) (ay (by omega)))<|Wg E E (aT (i-1) E E U27 aP (by omega) (v:=(l.getD (i-1) 0)) (gd 0 (by omega)))<|Wg E E (aV (aO E aP) (bQ _))<|Wg E E (bR E E)<|Ws (ch E E)<|Wn ?_
  refine aB E (fun h_t18=>?_)<|fun h_t18=>?_
  ·
   refine Ck<|aw<|ah<|Wm E<|Ws (bq E E (c:=((i:Int)-1)) (ay (by omega)))<|Wa E<|aj<|dq ?_
   exact bG (i-1) (by omega) ⟨by omega,(fh hi h_t11' (by rw [getD_take (by omega)];exact h_t18)).trans hr⟩ (Z E (Z E (Z E (ao E (ag (y:=(((i-1):Nat):Int)) (by omega)) ai))))<|au _
  ·
   refine Ex<|aa<|aa ?_
   have hlim:l.take i=limbs (nval l):=trim_stop hL hi h_t11' (by rw [getD_take (by omega)];exact h_t18) hr
   refine ah<|Wm E<|Ws (bR E E)<|Wn ?_
   refine aB E (fun h_t22=>?_)<|fun h_t22=>?_
   ·
    refine aa ?_
    have hz:nval l=0:=by rw [←hr,show i=0 from by omega];rfl
    refine ah<|Ws (cH dR E bH (.nil _))<|aG .n (aD (l:=kC) (u:=0) 0 E E E ab E Lr)<|Wn<|am<|aQ<|tb 0 E (y:=(ival (b,l))) (made_zero hz) ?_
    exact Qd E (a5 E (ac 0 E) ab ak) ⟨E,E⟩
   ·
    refine Ck<|aa ?_
    have hz:nval l≠0:=made_nz hlim hi (by omega)
    have hcl:=copy_len i
    refine ah<|Wm E<|bp i .n E E E (by omega) U27 bO dC fun v2=>Wa E<|Wr<|Wm E<|Wm E<|Ws (O.cp 0 E E E Lr U27 bO)<|Wn<|aa<|tr 0 E (y:=(l.take i)) (copy_take hi)<|bJ 0 E (kp 0 E (kp 1 E (kp 4 E (kp 5 E (.hit (i:=6) E (kp 9 E (kp 10 E (kp 11 E (kp 12 E (kp 13 E (kp 14 E (kp 15 E (kp 16 E (kp 17 E (kp 18 E (kp 21 E (kp 22 E (kp 24 E (.hit (i:=25) E (.hit (i:=26) E (kp 27 E (kp 28 E .nil))))))))))))))))))))))<|ah<|Wm E<|Wm E<|Ws (cH eo E (cU E (cU E bH)) (.cons E (aU Li) (.cons E (aN Li) (.nil _))))<|aG .n (aD (l:=kI) (u:=(b,(l.take i))) 0 E E E ab E Lr)<|Wn<|am ?_
    refine dJ (b':=OB.box b1 29 kC (ival (b,l))) 0 E (OB.I_C (by rw [hlim];exact canon_of hz)) ?_
    exact Qd E (a5 E (ac 0 E) ab ak) ⟨E,E⟩
 ·
  refine cx (b:=false) E E<|cx (b:=false) E E<|cx (b:=false) E E<|cx (b:=false) E E<|cx (b:=false) E E<|cx (b:=false) E E<|Ws (cb E E)<|Wn<|df E<|Ex<|aa<|aa ?_
  have hlim:l.take i=limbs (nval l):=trim_stop0 hr (by omega)
  refine ah<|Wm E<|Ws (bR E E)<|Wn ?_
  refine aB E (fun h_t22=>?_)<|fun h_t22=>?_
  ·
   refine aa ?_
   have hz:nval l=0:=by rw [←hr,show i=0 from by omega];rfl
   refine ah<|Ws (cH dR E bH (.nil _))<|aG .n (aD (l:=kC) (u:=0) 0 E E E ab E Lr)<|Wn<|am<|aQ<|tb 0 E (y:=(ival (b,l))) (made_zero hz) ?_
   exact Qd E (a5 E (ac 0 E) ab ak) ⟨E,E⟩
  ·
   refine Ck<|aa ?_
   have hz:nval l≠0:=made_nz hlim hi (by omega)
   have hcl:=copy_len i
   refine ah<|Wm E<|bp i .n E E E (by omega) U27 bO dC fun v3=>Wa E<|Wr<|Wm E<|Wm E<|Ws (O.cp 0 E E E Lr U27 bO)<|Wn<|aa<|tr 0 E (y:=(l.take i)) (copy_take hi)<|bJ 0 E (kp 0 E (kp 1 E (kp 4 E (kp 5 E (.hit (i:=6) E (kp 9 E (kp 10 E (kp 11 E (kp 12 E (kp 13 E (kp 14 E (kp 15 E (kp 16 E (kp 17 E (kp 18 E (kp 21 E (kp 22 E (kp 24 E (.hit (i:=25) E (.hit (i:=26) E (kp 27 E (kp 28 E .nil))))))))))))))))))))))<|ah<|Wm E<|Wm E<|Ws (cH eo E (cU E (cU E bH)) (.cons E (aU Li) (.cons E (aN Li) (.nil _))))<|aG .n (aD (l:=kI) (u:=(b,(l.take i))) 0 E E E ab E Lr)<|Wn<|am ?_
   refine dJ (b':=OB.box b1 29 kC (ival (b,l))) 0 E (OB.I_C (by rw [hlim];exact canon_of hz)) ?_
   exact Qd E (a5 E (ac 0 E) ab ak) ⟨E,E⟩
abbrev dB:=@c_zint_made
theorem c_zint_Add (x y:Int):Fn Tryz.prog 189 [kZ.is x,kZ.is y] (kC.is (x+y)):=by
 refine aK Tryz.func189 E E fun m w=>cG 0 E fun p p_v p_n p_l=>cG 1 E fun q q_v q_n q_l=>Cr<|a6 .n E fun b1=>a6 .n E fun b2=>a8 .n aZ fun b3=>Wn<|aa<|Cr<|Ws (aM E cw E)<|Ws (ae E (ac 2 E) (aU Li) cy E)<|Ws (aM E cw E)<|Ws (ae E (ac 1 E) (aU Li) cy E)<|Ws (O.eqB E E U4)<|Wn ?_
 refine aB E (fun h_t11=>?_)<|fun h_t11=>?_
 ·
  refine aa ?_
  refine ba (Γ:=[.fr (VP.pt b1 0),.fr (kBool.is p.1),.fr (VP.pt b1 1),.fr (kN.is p.2),.fr (VP.pt b2 1),.fr (kN.is q.2),.fr (kN.is (limbs (nval p.2+nval q.2))),.fr (kC.is (ival (p.1,(limbs (nval p.2+nval q.2)))))]) (J E (fun N=>aM E cw E) (J E (fun N=>ae E (mN N 2 E) (aU Li) cy E) (J E (fun N=>aM E bK E) (J E (fun N=>ae E (mN N 2 E) (aN Li) bM E) (J E (fun N=>aM E bK E) (J E (fun N=>ae E (mN N 1 E) (aN Li) bM E) (J E (fun N=>f2 fn242 E E (c_nat_Add p.2 q.2 (by omega) (by omega))) (J E (fun N=>f2 dG E E (dB p.1 (limbs (nval p.2+nval q.2)))) oz))))))))<|fun σ=>?_
  refine aG .n (aD (l:=kC) (u:=ival (p.1,(limbs (nval p.2+nval q.2)))) 0 E E E ab E Lr)<|Wn<|am<|aQ ?_
  exact Qd E (dE E (ac 0 E) ab (ag (y:=x+y) (by rw [←p_v,←q_v];first | exact add_same h_t11 | exact add_ge h_t11 h_t25 | exact add_lt h_t11 h_t25)) ak) ⟨E,E⟩
 ·
  refine Ck<|aa<|Cr<|Ws (aM E bK E)<|Ws (ae E (ac 2 E) (aN Li) bM E)<|Ws (aM E bK E)<|Ws (ae E (ac 1 E) (aN Li) bM E)<|Ws (f2 fn190 E E (fk p.2 q.2))<|Ws (aS E E)<|Wn ?_
  refine aB E (fun h_t25=>?_)<|fun h_t25=>?_
  ·
   refine ah<|Ws (ae E (ac 1 E) Li ab E)<|Ws (ae E (ac 2 E) Li ab E)<|aG .n (aD (l:=kI) (u:=(q.1,q.2)) 2 E E E ab E Lr)<|aG .n (aD (l:=kI) (u:=(p.1,p.2)) 1 E E E ab E Lr)<|Wr<|Ws (aM E bK E)<|Ws (ae E (ac 2 E) (aN Li) bM E)<|Ws (aM E bK E)<|Ws (ae E (ac 1 E) (aN Li) bM E)<|Ws (f2 fn243 E E (c_nat_Sub q.2 p.2))<|Wm E<|Ws (aH E E)<|Ws (aH E E)<|Wa E<|Wa E<|Wr<|Ws (aM E cw E) ?_
   refine Ws (ae E (ac 2 E) (aU Li) cy E)<|Wm E<|Ws (f2 dG E E (dB q.1 (if nval q.2<nval p.2 then [] else limbs (nval q.2-nval p.2))))<|aG .n (aD (l:=kC) (u:=ival (q.1,(if nval q.2<nval p.2 then [] else limbs (nval q.2-nval p.2)))) 0 E E E ab E Lr)<|Wn<|am ?_
   exact Qd E (dE E (ac 0 E) ab (ag (y:=x+y) (by rw [←p_v,←q_v];first | exact add_same h_t11 | exact add_ge h_t11 h_t25 | exact add_lt h_t11 h_t25)) ak) ⟨E,E⟩
  ·
   refine Ck<|Cr<|Ws (aM E bK E)<|Ws (ae E (ac 2 E) (aN Li) bM E)<|Ws (aM E bK E)<|Ws (ae E (ac 1 E) (aN Li) bM E)<|Ws (f2 fn243 E E (c_nat_Sub p.2 q.2))<|Wm E<|Ws (aH E E)<|Ws (aH E E)<|Wa E<|Wa E<|Wr<|Ws (aM E cw E)<|Ws (ae E (ac 2 E) (aU Li) cy E)<|Wm E<|Ws (f2 dG E E (dB p.1 (if nval p.2<nval q.2 then [] else limbs (nval p.2-nval q.2))))<|aG .n (aD (l:=kC) (u:=ival (p.1,(if nval p.2<nval q.2 then [] else limbs (nval p.2-nval q.2)))) 0 E E E ab E Lr)<|aj ?_
   refine bS<|am ?_
   exact Qd E (dE E (ac 0 E) ab (ag (y:=x+y) (by rw [←p_v,←q_v];first | exact add_same h_t11 | exact add_ge h_t11 h_t25 | exact add_lt h_t11 h_t25)) ak) ⟨E,E⟩
abbrev dP:=@c_zint_Add
theorem c_ref01_Norm (l:List Nat):Fn Tryz.prog 158 [kN.is l] (kN.is (limbs (nval l))):=by
 refine aK Tryz.func158 E E fun m w=>aR (i:=0) E bu fun hB=>aR (i:=0) E ce fun hL=>Cr<|Wa E<|Wr<|Wm E<|Ws (aA E U27)<|Wa E<|Wn<|aa<|aw<|bN (fun (i:Nat)=>i≤l.length∧nval (l.take i)=nval l) (fun (i:Nat)=>[(0,kN.is l),(3,kN6.is (i:Int))]) (fun (i:Nat)=>[]) (fun (i:Nat)=>i) l.length ⟨Nat.le_refl _,by rw [List.take_length]⟩ (Z E (ao E (ag (y:=((l.length:Nat):Int)) (by omega)) ai)) (au _) ?_
 intro i ⟨hi,hr⟩
 refine aa<|Cr<|Wm E<|Ws (cq E E)<|Wm E ?_
 refine bV 10 E (fun h_t10=>?_)<|fun h_t10=>?_
 ·
  have h_t10':0<i:=by omega
  refine Wg E E (bj E)<|Wg E E (bj E)<|Wg E E (bq E E (c:=((i:Int)-1)) (ay (by omega)))<|Wg E E (aT (i-1) E E U27 aP (by omega) (v:=(l.getD (i-1) 0)) (gd 0 (by omega)))<|Wg E E (aV (aO E aP) (bQ _))<|Wg E E (bR E E)<|Ws (ch E E)<|Wn ?_
  refine aB E (fun h_t17=>?_)<|fun h_t17=>?_
  ·
   refine Ck<|aw<|ah<|Wm E<|Ws (bq E E (c:=((i:Int)-1)) (ay (by omega)))<|Wa E<|aj<|dq ?_
   exact bG (i-1) (by omega) ⟨by omega,(fh hi h_t10' (by rw [getD_take (by omega)];exact h_t17)).trans hr⟩ (Z E (ao E (ag (y:=(((i-1):Nat):Int)) (by omega)) ai))<|au _
  ·
   refine Ex<|Cr<|Wa E<|Wn<|aa<|Cr<|Wa E<|Wn<|aw ?_
   have hlim:l.take i=limbs (nval l):=trim_stop hL hi h_t10' (by rw [getD_take (by omega)];exact h_t17) hr
   refine ca 93 kLimb<|bX (fun (j:Nat) (v:Value)=>j≤i) (fun (j:Nat) (v:Value)=>[(0,kN.is l),(3,kN6.is (i:Int)),(4,VP.ex v),(5,kN6.is (j:Int))]) (fun (j:Nat) (v:Value)=>[OB.row v 93 kLimb (l.take j)]) (fun (j:Nat) (v:Value)=>i-j) 0 (.slice none 0 0) (by omega) (Z E (Z E (Z E (ao E (ag (y:=(0:Int)) (by omega)) ai)))) (aW (OS.keepLe (a9 (by simp)) OS.nil)) ?_
   intro j v hj
   have hx:=getD_lt hL j
   have htl:(l.take j).length=j:=by simp;omega
   refine aa<|Cr<|Wm E<|Wm E<|Ws (aS E E)<|Wn ?_
   refine aB E (fun h_t22=>?_)<|fun h_t22=>?_
   ·
    refine Ck<|aa<|aw<|ah<|Wm E<|Wm E<|Wm E<|Ws (aT j E E U27 aP E (v:=(l.getD j 0)) (gd 0 (by omega)))<|Ws (aV (aO E aP) (bQ _))<|Ws (bC U27 bO (bZ E (bF (x:=(l.getD j 0)) (by omega)) bw) E (by decide))<|bL 0 .n E E E Lr U27 bO (by simp;omega) fun v1=>Wa E<|aj<|Qb<|ah<|Wm E<|Ws (aI E E (c:=((j:Int)+1)) (ay (by omega)))<|Wa E<|aj<|tr 0 E (y:=(l.take (j+1))) (take_app1 (by omega)) ?_
    exact bP (j+1) v1 (by omega) (by omega) (Z E (Z E (Z E (ao E (ag (y:=(((j+1):Nat):Int)) (by omega)) ai))))<|au _
   ·
    refine Ex<|Cr<|Wm E<|Wa E<|Wn<|am<|bJ 0 E (kp 0 E (.hit (i:=2) E (kp 3 E (.hit (i:=4) E (kp 5 E (kp 20 E (kp 21 E (kp 22 E (.hit (i:=32) E .nil)))))))))<|tl 2 E (y:=(limbs (nval l))) (by rw [←hlim,show j=i from by omega]) ?_
    exact Qd E (ar E ak) ⟨E,E⟩
 ·
  refine cx (b:=false) E E<|cx (b:=false) E E<|cx (b:=false) E E<|cx (b:=false) E E<|cx (b:=false) E E<|cx (b:=false) E E<|Ws (cb E E)<|Wn<|df E<|Ex<|Cr<|Wa E<|Wn<|aa<|Cr<|Wa E ?_
  refine Wn<|aw ?_
  have hlim:l.take i=limbs (nval l):=trim_stop0 hr (by omega)
  refine ca 93 kLimb<|bX (fun (j:Nat) (v:Value)=>j≤i) (fun (j:Nat) (v:Value)=>[(0,kN.is l),(3,kN6.is (i:Int)),(4,VP.ex v),(5,kN6.is (j:Int))]) (fun (j:Nat) (v:Value)=>[OB.row v 93 kLimb (l.take j)]) (fun (j:Nat) (v:Value)=>i-j) 0 (.slice none 0 0) (by omega) (Z E (Z E (Z E (ao E (ag (y:=(0:Int)) (by omega)) ai)))) (aW (OS.keepLe (a9 (by simp)) OS.nil)) ?_
  intro j v hj
  have hx:=getD_lt hL j
  have htl:(l.take j).length=j:=by simp;omega
  refine aa<|Cr<|Wm E<|Wm E<|Ws (aS E E)<|Wn ?_
  refine aB E (fun h_t22=>?_)<|fun h_t22=>?_
  ·
   refine Ck<|aa<|aw<|ah<|Wm E<|Wm E<|Wm E<|Ws (aT j E E U27 aP E (v:=(l.getD j 0)) (gd 0 (by omega)))<|Ws (aV (aO E aP) (bQ _))<|Ws (bC U27 bO (bZ E (bF (x:=(l.getD j 0)) (by omega)) bw) E (by decide))<|bL 0 .n E E E Lr U27 bO (by simp;omega) fun v2=>Wa E<|aj<|Qb<|ah<|Wm E<|Ws (aI E E (c:=((j:Int)+1)) (ay (by omega)))<|Wa E<|aj<|tr 0 E (y:=(l.take (j+1))) (take_app1 (by omega)) ?_
   exact bP (j+1) v2 (by omega) (by omega) (Z E (Z E (Z E (ao E (ag (y:=(((j+1):Nat):Int)) (by omega)) ai))))<|au _
  ·
   refine Ex<|Cr<|Wm E<|Wa E<|Wn<|am<|bJ 0 E (kp 0 E (.hit (i:=2) E (kp 3 E (.hit (i:=4) E (kp 5 E (kp 20 E (kp 21 E (kp 22 E (.hit (i:=32) E .nil)))))))))<|tl 2 E (y:=(limbs (nval l))) (by rw [←hlim,show j=i from by omega]) ?_
   exact Qd E (ar E ak) ⟨E,E⟩
abbrev dw:=@c_ref01_Norm
theorem c_ref01_limb (l:List Nat) (i:Nat):Fn Tryz.prog 246 [kN.is l,kN6.is (i:Int)] ((kInt .u64).is (l.getD i 0:Int)):=by
 refine aK Tryz.func246 E E fun m w=>aR (i:=0) E ce fun hL=>?_
 have hx:=getD_lt hL i
 refine Cr<|Wa E<|Wn<|aa<|Cr<|Wm E<|Wm E<|Ws (aA E U27)<|Ws (aS E E)<|Wn ?_
 refine aB E (fun h_t8=>?_)<|fun h_t8=>?_
 ·
  refine Cr<|Wm E<|Wm E<|Ws (aT i E E U27 aP E (v:=(l.getD i 0)) (gd 0 (by omega)))<|Ws (aV (aO E aP) (bQ _))<|Ws (bb E U93 U178 (c:=((l.getD i 0):Int)) (bA (by omega)))<|Wa E<|Wn<|am<|aQ ?_
  exact Qd E (cz E (ag (y:=(l.getD i 0:Int)) (by omega)) ak) ⟨E,E⟩
 ·
  refine Ck<|Cr<|Wa E<|Wn<|am ?_
  exact Qd E (cz E (ag (y:=(l.getD i 0:Int)) (by rw [getD_out (by omega)];rfl)) ak) ⟨E,E⟩
abbrev dH:=@c_ref01_limb
theorem c_ref01_most (a b:Int):Fn Tryz.prog 245 [kN6.is a,kN6.is b] (kN6.is (max a b)):=by
 refine aK Tryz.func245 E E fun m w=>Cr<|Wa E<|Wn<|aa<|Cr<|Wm E<|Wm E<|Ws (cq E E)<|Wn ?_
 refine aB E (fun h_t7=>?_)<|fun h_t7=>?_
 ·
  refine Cr<|Wm E<|Wa E<|Wn<|am<|aQ ?_
  exact Qd E (cz E (ag (y:=max a b) (by omega)) ak) ⟨E,E⟩
 ·
  refine Ck<|Cr<|Wm E<|Wa E<|Wn<|am ?_
  exact Qd E (cz E (ag (y:=max a b) (by omega)) ak) ⟨E,E⟩
theorem c_ref01_Cmp (a b:List Nat):Fn Tryz.prog 197 [kN.is a,kN.is b] (kN6.is (cmpI (nval a) (nval b))):=by
 refine aK Tryz.func197 E E fun m w=>aR (i:=0) E bu fun hA=>aR (i:=1) E bu fun hB=>aR (i:=0) E ce fun lA=>aR (i:=1) E ce fun lB=>Cr<|Wa E<|Wn<|aa<|Cr<|Wm E<|Ws (aA E U27)<|Wm E<|Ws (aA E U27)<|Ws (f2 fn245 E E (c_ref01_most (a.length:Int) (b.length:Int)))<|Ws (bq E E (c:=((max (a.length:Int) (b.length:Int))-1)) (ay (by omega)))<|Wa E<|Wn<|aw<|bN (fun (i:Nat)=>i≤max a.length b.length∧nval (a.drop i)=nval (b.drop i)) (fun (i:Nat)=>[(0,kN.is a),(1,kN.is b),(5,kN6.is ((i:Int)-1))]) (fun (i:Nat)=>[]) (fun (i:Nat)=>i) (max a.length b.length) ⟨Nat.le_refl _,drop_max E⟩ (Z E (Z E (ao E (ag (y:=(((max a.length b.length):Nat):Int)-1) (by omega)) ai))) (au _) ?_
 intro i ⟨hi,hd⟩
 refine aa<|Cr<|Wm E<|Ws (cR E E)<|Wn ?_
 refine aB E (fun h_t15=>?_)<|fun h_t15=>?_
 ·
  refine Ck<|aa<|aw<|Cr<|Wm E<|Wm E<|Ws (aF dL (aX E (aq E (ag (y:=(((i-1):Nat):Int)) (by omega)) ax)) (dH a (i-1)))<|Wa E<|Wr<|Wm E<|Wm E<|Ws (aF dL (aX E (aq E (ag (y:=(((i-1):Nat):Int)) (by omega)) ax)) (dH b (i-1)))<|Wa E<|Wn<|aa<|Cr<|Wm E ?_
  refine Wm E<|Ws (aS E E)<|Wn ?_
  refine aB E (fun h_t26=>?_)<|fun h_t26=>?_
  ·
   refine Cr<|Wa E<|Wn<|am<|aQ<|bE<|aQ<|aQ<|bE<|aQ<|tl 4 E (y:=(cmpI (nval a) (nval b))) (rcmp_lt (i:=i) (by omega) hd lA (by omega)) ?_
   exact Qd E (ar E ak) ⟨E,E⟩
  ·
   refine Ck<|Cr<|Wm E<|Wm E<|Ws (cq E E)<|Wn ?_
   refine aB E (fun h_t29=>?_)<|fun h_t29=>?_
   ·
    refine Cr<|Wa E<|Wn<|am<|bE<|aQ<|aQ<|bE<|aQ<|tl 4 E (y:=(cmpI (nval a) (nval b))) (rcmp_gt (i:=i) (by omega) hd lB (by omega)) ?_
    exact Qd E (ar E ak) ⟨E,E⟩
   ·
    refine cc<|Qb<|ah<|Wm E<|Ws (bq E E (c:=(((i:Int)-1)-1)) (ay (by omega)))<|Wa E<|aj ?_
    exact bG (i-1) (by omega) ⟨by omega,rcmp_down (by omega) hd (by omega)⟩ (Z E (Z E (ao E (ag (y:=(((i-1):Nat):Int)-1) (by omega)) ai)))<|au _
 ·
  refine Ex<|Cr<|Wa E<|Wn<|am<|tl 4 E (y:=(cmpI (nval a) (nval b))) (rcmp_eq (i:=i) (by omega) hd) ?_
  exact Qd E (ar E ak) ⟨E,E⟩
abbrev eR:=@c_ref01_Cmp
theorem c_ref01_Bits (l:List Nat):Fn Tryz.prog 125 [kN.is l] (kN6.is (bitlen (nval l):Int)):=by
 refine aK Tryz.func125 E E fun m w=>aR (i:=0) E bu fun hA=>aR (i:=0) E ce fun hL=>Cr<|Wa E<|Wn<|aa<|Cr<|Wm E<|Ws (aA E U27)<|Ws (bq E E (c:=((l.length:Int)-1)) (ay (by omega)))<|Wa E<|Wn<|aw<|bN (fun (i:Nat)=>i≤l.length∧nval (l.drop i)=0) (fun (i:Nat)=>[(0,kN.is l),(3,kN6.is ((i:Int)-1))]) (fun (i:Nat)=>[]) (fun (i:Nat)=>i) l.length ⟨Nat.le_refl _,by rw [List.drop_length];rfl⟩ (Z E (ao E (ag (y:=((l.length:Nat):Int)-1) (by omega)) ai)) (au _) ?_
 intro i ⟨hi,hd⟩
 refine aa<|Cr<|Wm E<|Ws (cR E E)<|Wn ?_
 refine aB E (fun h_t10=>?_)<|fun h_t10=>?_
 ·
  refine Ck<|aa<|aw<|aa ?_
  have hx:=getD_lt hL (i-1)
  have hbl:=@bitlen_le (l.getD (i-1) 0) 32 hx
  refine ah<|Wm E<|Wm E<|Ws (aT (i-1) E E U27 aP (by omega) (v:=(l.getD (i-1) 0)) (gd 0 (by omega)))<|Ws (aV (aO E aP) (bQ _))<|Ws (bt E E)<|Wn ?_
  refine aB E (fun h_t17=>?_)<|fun h_t17=>?_
  ·
   refine Cr<|Wm E<|Ws (dn E E (c:=(32*((i:Int)-1))) (ay (by omega)))<|Wa E<|Wn<|aa<|Cr<|Wm E<|Wm E<|Ws (aT (i-1) E E U27 aP (by omega) (v:=(l.getD (i-1) 0)) (gd 0 (by omega)))<|Ws (aV (aO E aP) (bQ _))<|Wa E<|Wn<|aw<|bX (fun (n:Nat) (w:Nat)=>n+bitlen w=32*(i-1)+bitlen (l.getD (i-1) 0)∧w<4294967296) (fun (n:Nat) (w:Nat)=>[(4,kN6.is (n:Int)),(5,(kInt .u32).is (w:Int))]) (fun (n:Nat) (w:Nat)=>[]) (fun (n:Nat) (w:Nat)=>w) (32*(i-1)) (l.getD (i-1) 0) ⟨E,hx⟩ (ao E (ag (y:=(((32*(i-1)):Nat):Int)) (by omega)) (ao E (ag (y:=(((l.getD (i-1) 0):Nat):Int)) (by omega)) ai)) (au _) ?_
   intro n w ⟨hn,hw⟩
   refine aa<|Cr<|Wm E<|Ws (cq E E)<|Wn ?_
   refine aB E (fun h_t25=>?_)<|fun h_t25=>?_
   ·
    refine Ck<|aa<|aw<|ah<|Wm E<|Ws (aI E E (c:=((n:Int)+1)) (ay (by omega)))<|Wa E<|aj<|Qb<|ah<|Wm E<|Ws (dM E E (by omega) (c:=((w/2:Nat):Int)) (quoN32 2 E E hw))<|Wa E<|aj ?_
    exact bP (n+1) (w/2) (by omega) ⟨by have:=@bitlen_half w (by omega);omega,by omega⟩ (ao E (ag (y:=(((n+1):Nat):Int)) (by omega)) (ao E (ag (y:=(((w/2):Nat):Int)) (by omega)) ai))<|au _
   ·
    refine Ex<|Cr<|Wm E<|Wa E<|Wn<|am<|bE<|aQ<|aQ<|bE<|aQ ?_
    have hw0:bitlen w=0:=bitlen_0.2 (by omega)
    refine tl 2 E (y:=(bitlen (nval l):Int)) (by have:=rbits_end hL (i:=i) (by omega) hd (by omega);omega) ?_
    exact Qd E (ar E ak) ⟨E,E⟩
  ·
   refine cc<|Qb<|ah<|Wm E<|Ws (bq E E (c:=(((i:Int)-1)-1)) (ay (by omega)))<|Wa E<|aj ?_
   exact bG (i-1) (by omega) ⟨by omega,rbits_down (by omega) hd (by omega)⟩ (Z E (ao E (ag (y:=(((i-1):Nat):Int)-1) (by omega)) ai))<|au _
 ·
  refine Ex<|Cr<|Wa E<|Wn<|am<|tl 2 E (y:=(bitlen (nval l):Int)) (rbits_0 (i:=i) (by omega) hd) ?_
  exact Qd E (ar E ak) ⟨E,E⟩
abbrev e9:=@c_ref01_Bits
theorem c_ref01_Add (a b:List Nat) (hA:a.length<1099511627776) (hB:b.length<1099511627776):Fn Tryz.prog 196 [kN.is a,kN.is b] (kN.is (limbs (nval a+nval b))):=by
 refine aK Tryz.func196 E E fun m w=>aR (i:=0) E ce fun lA=>aR (i:=1) E ce fun lB=>Cr<|Wa E<|Wr<|Wa E<|Wr<|Wa E<|Wn<|aa<|Cr<|Wa E<|Wn ?_
 refine aw<|ca 93 kLimb<|da (fun (r:List Nat) (c:Nat) (v:Value)=>r.length≤max a.length b.length∧AddR a b r c) (fun (r:List Nat) (c:Nat) (v:Value)=>[(0,kN.is a),(1,kN.is b),(5,VP.ex v),(6,(kInt .u64).is (c:Int)),(7,kN6.is (r.length:Int))]) (fun (r:List Nat) (c:Nat) (v:Value)=>[OB.row v 93 kLimb r]) (fun (r:List Nat) (c:Nat) (v:Value)=>max a.length b.length-r.length) [] 0 (.slice none 0 0) ⟨Nat.zero_le _,addR_0 a b⟩ (Z E (Z E (Z E (ao E (ag (y:=(0:Int)) (by omega)) (ao E (ag (y:=([].length:Int)) (by simp)) ai))))) (au _) ?_
 intro r c v ⟨hr,hS⟩
 have hc:=hS.2.1
 have hx:=getD_lt lA r.length
 have hy:=getD_lt lB r.length
 refine aa<|Cr<|Wm E<|Wm E<|Ws (aA E U27)<|Wm E<|Ws (aA E U27)<|Ws (f2 fn245 E E (c_ref01_most (a.length:Int) (b.length:Int)))<|Ws (aS E E)<|Wn ?_
 refine aB E (fun h_t14=>?_)<|fun h_t14=>?_
 ·
  refine Ck<|aa<|aw<|Cr<|Wm E<|Wm E<|Wm E<|Ws (aF dL (aX E (aq E (ag (y:=((r.length:Nat):Int)) (by omega)) ax)) (dH a r.length))<|Ws (aI E E (c:=((c:Int)+(a.getD r.length 0:Int))) (bA (by omega)))<|Wm E<|Wm E<|Ws (aF dL (aX E (aq E (ag (y:=((r.length:Nat):Int)) (by omega)) ax)) (dH b r.length))<|Ws (aI E E (c:=(((c:Int)+(a.getD r.length 0:Int))+(b.getD r.length 0:Int))) (bA (by omega)))<|Wa E<|Wr<|Wm E<|Wm E<|Ws (d5 E E (by omega) (c:=(((c+a.getD r.length 0+b.getD r.length 0)%4294967296:Nat):Int)) (tmodN 4294967296 (by omega) E))<|Ws (bb E U178 U93 (c:=(((c+a.getD r.length 0+b.getD r.length 0)%4294967296:Nat):Int)) (cN (by omega))) ?_
  refine Ws (bC U27 bO (bZ E (bF (x:=((c+a.getD r.length 0+b.getD r.length 0)%4294967296:Nat)) (by omega)) bw) E (by decide))<|bL 0 .n E E E Lr U27 bO (by simp;omega) fun v1=>Wa E<|Wn<|ah<|Wm E<|Ws (dM E E (by omega) (c:=(((c+a.getD r.length 0+b.getD r.length 0)/4294967296:Nat):Int)) (quoN 4294967296 (by omega) E (by omega)))<|Wa E<|aj<|Qb<|ah<|Wm E<|Ws (aI E E (c:=((r.length:Int)+1)) (ay (by omega)))<|Wa E<|aj ?_
  exact cM (r++[(c+a.getD r.length 0+b.getD r.length 0)%4294967296]) ((c+a.getD r.length 0+b.getD r.length 0)/4294967296) v1 (by simp;omega) ⟨by simp;omega,addR_s lA lB hS⟩ (Z E (Z E (Z E (ao E (ag (y:=((((c+a.getD r.length 0+b.getD r.length 0)/4294967296):Nat):Int)) (by omega)) (ao E (ag (y:=((r++[(c+a.getD r.length 0+b.getD r.length 0)%4294967296]).length:Int)) (by simp)) ai)))))<|aW<|OS.keepLe (a9 (by simp)) OS.nil
 ·
  refine Ex<|Cr<|Wm E<|Wm E<|Ws (bb E U178 U93 (c:=(c:Int)) (cN (by omega)))<|Ws (bC U27 bO (bZ E (bF (x:=c) (by omega)) bw) E (by decide))<|bL 0 .n E E E Lr U27 bO (by simp;omega) fun v2=>Wa E<|Wr<|Wm E<|bJ 0 E (kp 0 E (kp 1 E (.hit (i:=5) E (kp 6 E (kp 7 E (kp 8 E (kp 9 E (kp 10 E (kp 11 E (kp 12 E (kp 13 E (kp 14 E (kp 34 E (kp 35 E (kp 36 E (kp 37 E (.hit (i:=38) E (.hit (i:=39) E .nil))))))))))))))))))<|Ws (f1 dz E (dw (r++[c])))<|Wa E<|Wn<|am ?_
  refine tl 4 E (y:=(limbs (nval a+nval b))) (by rw [nval_concat,hS.2.2,List.take_of_length_le (by omega),List.take_of_length_le (by omega)]) ?_
  exact Qd E (ar E ak) ⟨E,E⟩
theorem c_ref01_less (x y:List Nat) (hle:nval y≤nval x):Fn Tryz.prog 247 [kN.is x,kN.is y] (kN.is (limbs (nval x-nval y))):=by
 refine aK Tryz.func247 E E fun m w=>aR (i:=0) E ce fun l1=>aR (i:=1) E ce fun l2=>aR (i:=0) E bu fun hB=>Cr<|Wa E<|Wr<|Wa E<|Wr<|Wa E<|Wn<|aa<|Cr<|Wa E<|aj ?_
 refine bS<|aw<|ca 93 kLimb<|da (fun (r:List Nat) (c:Nat) (v:Value)=>r.length≤x.length∧LessR x y r c) (fun (r:List Nat) (c:Nat) (v:Value)=>[(0,kN.is x),(1,kN.is y),(5,VP.ex v),(6,(kInt .u64).is (c:Int)),(7,kN6.is (r.length:Int))]) (fun (r:List Nat) (c:Nat) (v:Value)=>[OB.row v 93 kLimb r]) (fun (r:List Nat) (c:Nat) (v:Value)=>x.length-r.length) [] 0 (.slice none 0 0) ⟨Nat.zero_le _,lessR_0 x y⟩ (Z E (Z E (Z E (ao E (ag (y:=(0:Int)) (by omega)) (ao E (ag (y:=([].length:Int)) (by simp)) ai))))) (au _) ?_
 intro r c v ⟨hr,hS⟩
 have hc:=hS.2.1
 have hx:=getD_lt l1 r.length
 have hy:=getD_lt l2 r.length
 refine aa<|Cr<|Wm E<|Wm E<|Ws (aA E U27)<|Ws (aS E E)<|Wn ?_
 refine aB E (fun h_t13=>?_)<|fun h_t13=>?_
 ·
  refine Ck<|aa<|aw<|Cr<|Wm E<|Wm E<|Ws (aF dL (aX E (aq E (ag (y:=((r.length:Nat):Int)) (by omega)) ax)) (dH x r.length))<|Wa E<|Wr<|Wm E<|Wm E<|Ws (aF dL (aX E (aq E (ag (y:=((r.length:Nat):Int)) (by omega)) ax)) (dH y r.length))<|Wm E<|Ws (aI E E (c:=((y.getD r.length 0:Int)+(c:Int))) (bA (by omega)))<|Wa E<|Wr ?_
  refine Wa E<|Wn<|aa<|Cr<|Wm E<|Wm E<|Ws (aS E E)<|Wn ?_
  refine aB E (fun h_t26=>?_)<|fun h_t26=>?_
  ·
   refine Cr<|Wm E<|Ws (aI E E (c:=((x.getD r.length 0:Int)+4294967296)) (bA (by omega)))<|Wa E<|Wn<|ah<|Wa E<|Wn<|ah<|Wm E<|Wm E<|Wm E<|Ws (bq E E (c:=(((x.getD r.length 0:Int)+4294967296)-((y.getD r.length 0:Int)+(c:Int)))) (bA (by omega)))<|Ws (bb E U178 U93 (c:=((x.getD r.length 0+4294967296-(c+y.getD r.length 0):Nat):Int)) (cN (by omega)))<|Ws (bC U27 bO (bZ E (bF (x:=(x.getD r.length 0+4294967296-(c+y.getD r.length 0):Nat)) (by omega)) bw) E (by decide))<|bL 0 .n E E E Lr U27 bO (by simp;omega) fun v1=>Wa E<|aj<|Qb<|ah ?_
   refine Wm E<|Ws (aI E E (c:=((r.length:Int)+1)) (ay (by omega)))<|Wa E<|aj ?_
   exact cM (r++[x.getD r.length 0+4294967296-(c+y.getD r.length 0)]) 1 v1 (by simp;omega) ⟨by simp;omega,lessR_g hS (by omega) (by omega) (by omega)⟩ (Z E (Z E (Z E (ao E (ag (y:=(1:Int)) (by omega)) (ao E (ag (y:=((r++[x.getD r.length 0+4294967296-(c+y.getD r.length 0)]).length:Int)) (by simp)) ai)))))<|aW<|OS.keepLe (a9 (by simp)) OS.nil
  ·
   refine Ck<|ah<|Wm E<|Wm E<|Wm E<|Ws (bq E E (c:=((x.getD r.length 0:Int)-((y.getD r.length 0:Int)+(c:Int)))) (bA (by omega)))<|Ws (bb E U178 U93 (c:=((x.getD r.length 0-(c+y.getD r.length 0):Nat):Int)) (cN (by omega)))<|Ws (bC U27 bO (bZ E (bF (x:=(x.getD r.length 0-(c+y.getD r.length 0):Nat)) (by omega)) bw) E (by decide))<|bL 0 .n E E E Lr U27 bO (by simp;omega) fun v2=>Wa E<|aj<|Qb<|ah<|Wm E<|Ws (aI E E (c:=((r.length:Int)+1)) (ay (by omega)))<|Wa E<|aj ?_
   exact cM (r++[x.getD r.length 0-(c+y.getD r.length 0)]) 0 v2 (by simp;omega) ⟨by simp;omega,lessR_g hS (by omega) (by omega) (by omega)⟩ (Z E (Z E (Z E (ao E (ag (y:=(0:Int)) (by omega)) (ao E (ag (y:=((r++[x.getD r.length 0-(c+y.getD r.length 0)]).length:Int)) (by simp)) ai)))))<|aW<|OS.keepLe (a9 (by simp)) OS.nil
 ·
  refine Ex<|Cr<|Wm E<|bJ 0 E (kp 0 E (kp 1 E (.hit (i:=5) E (kp 6 E (kp 7 E (kp 10 E (kp 11 E (kp 12 E (kp 13 E (.hit (i:=36) E .nil))))))))))<|Ws (f1 dz E (dw r))<|Wa E<|Wn<|am ?_
  have hrx:r.length=x.length:=by omega
  refine tl 4 E (y:=(limbs (nval x-nval y))) (by rw [lessR_end' hS hrx l1 l2 hle]) ?_
  exact Qd E (ar E ak) ⟨E,E⟩
abbrev eN:=@c_ref01_less
theorem c_ref01_Sub (a b:List Nat):Fn Tryz.prog 198 [kN.is a,kN.is b] (VP.tup [kN.is (if nval a<nval b then [] else limbs (nval a-nval b)),kN6.is (if nval a<nval b then 10 else 0)]):=by
 refine aK Tryz.func198 E E fun m w=>Cr<|Wa E<|Wa E<|Wn<|aa<|Cr<|Wm E<|Wm E<|Ws (f2 fn197 E E (eR a b))<|Ws (aS E E)<|Wn ?_
 refine aB E (fun h_t9=>?_)<|fun h_t9=>?_
 ·
  refine Cr<|Wa E<|Wa E<|Wn<|am<|aQ<|cC (q:=kN.is ([]:List Nat)) 4 E (cL _)<|tl 4 E (y:=(if nval a<nval b then [] else limbs (nval a-nval b))) (by rw [if_pos (cmpI_lt h_t9)])<|tl 5 E (y:=(if nval a<nval b then 10 else 0)) (by rw [if_pos (cmpI_lt h_t9)]) ?_
  exact Qd E (ar E (ar E ak)) ⟨E,E⟩
 ·
  refine Ck<|Cr<|Wm E<|Wm E<|Ws (f2 fn247 E E (eN a b (cmpI_ge h_t9)))<|Wa E<|Wa E<|Wn<|am<|tl 4 E (y:=(if nval a<nval b then [] else limbs (nval a-nval b))) (by rw [if_neg (Nat.not_lt.2 (cmpI_ge h_t9))])<|tl 5 E (y:=(if nval a<nval b then 10 else 0)) (by rw [if_neg (Nat.not_lt.2 (cmpI_ge h_t9))]) ?_
  exact Qd E (ar E (ar E ak)) ⟨E,E⟩
theorem c_ref02_made (b:Bool) (l:List Nat):Fn Tryz.prog 139 [kBool.is b,kN.is l] (kC.is (ival (b,l))):=by
 refine aK Tryz.func139 E E fun m w=>Cr<|a8 .n aZ fun b1=>Wr<|Wm E<|Ws (f1 dz E (dw l))<|Wa E<|Wr<|Wm E<|Wm E ?_
 refine WP.split 9 E (fun h_t9=>?_)<|fun h_t9=>?_
 ·
  refine Wg E E (bj E)<|Wg E E (aA E U27)<|Wg E E (cq E E)<|Ws (ch E E)<|Wm E<|Ws (cH eo E (cU E (cU E bH)) (.cons E (aU Li) (.cons E (aN Li) (.nil _))))<|aG .n (aD (l:=kI) (u:=(decide (0<((limbs (nval l)).length:Int)),limbs (nval l))) 0 E E E ab E Lr)<|Wn<|am<|dJ (b':=OB.box b1 29 kC (ival (b,l))) 0 E (OB.I_C (by have:=@canon_of' b l;simp_all)) ?_
  exact Qd E (a5 E (ac 0 E) ab ak) ⟨E,E⟩
 ·
  refine cx (b:=false) E E<|cx (b:=false) E E<|cx (b:=false) E E<|Ws (cb E E)<|Wm E<|Ws (cH eo E (cU E (cU E bH)) (.cons E (aU Li) (.cons E (aN Li) (.nil _))))<|aG .n (aD (l:=kI) (u:=(false,limbs (nval l))) 0 E E E ab E Lr)<|Wn<|am<|dJ (b':=OB.box b1 29 kC (ival (b,l))) 0 E (OB.I_C (by have:=@canon_of' b l;simp_all)) ?_
  exact Qd E (a5 E (ac 0 E) ab ak) ⟨E,E⟩
abbrev dN:=@c_ref02_made
theorem c_ref02_Of (n:Int):Fn Tryz.prog 77 [kI64.is n] (kC.is n):=by
 refine aK Tryz.func77 E E fun m w=>aR (i:=0) E int_rng fun hn=>cC (q:=kN6.is n) 0 E (i64_le _)<|Cr<|a8 .n aZ fun b1=>Wr<|Wm E<|Ws (bb E U2 U178 E)<|Wa E<|Wn<|aa<|Cr<|Wm E<|Ws (aS E E)<|Wn ?_
 refine aB E (fun h_t7=>?_)<|fun h_t7=>?_
 ·
  refine ah<|Wm E<|Ws (O.neg E (c:=((n.natAbs:Nat):Int)) (of_neg h_t7 hn.1))<|Wa E<|Wr<|Wm E<|Ws (aS E E)<|Wm E<|Ws (bb E U178 U93 (c:=((n.natAbs%4294967296:Nat):Int)) (dg E))<|Wm E<|Ws (cP E E (by omega) (c:=((n.natAbs/2^32:Nat):Int)) (cQ 32 E E (by decide)))<|Ws (bb E U178 U93 (c:=((n.natAbs/2^32:Nat):Int)) (cN (by omega)))<|Ws (bC U27 bO (bZ E (bF (x:=(n.natAbs%4294967296:Nat)) (by omega)) (bZ E (bF (x:=(n.natAbs/2^32:Nat)) (by omega)) bw)) E (by decide))<|Ws (f2 dV E E (dN (decide (n<0)) [(n.natAbs%4294967296:Nat),(n.natAbs/2^32:Nat)]))<|aG .n (aD (l:=kC) (u:=ival ((decide (n<0)),[(n.natAbs%4294967296:Nat),(n.natAbs/2^32:Nat)])) 0 E E E ab E Lr)<|Wn<|am<|tb 0 E (y:=n) of_val ?_
  exact Qd E (a5 E (ac 0 E) ab ak) ⟨E,E⟩
 ·
  refine tl 3 E (y:=((n.natAbs:Nat):Int)) (of_pos h_t7 hn.2)<|Ck<|Cr<|Wm E<|Ws (aS E E)<|Wm E<|Ws (bb E U178 U93 (c:=((n.natAbs%4294967296:Nat):Int)) (dg E))<|Wm E<|Ws (cP E E (by omega) (c:=((n.natAbs/2^32:Nat):Int)) (cQ 32 E E (by decide)))<|Ws (bb E U178 U93 (c:=((n.natAbs/2^32:Nat):Int)) (cN (by omega)))<|Ws (bC U27 bO (bZ E (bF (x:=(n.natAbs%4294967296:Nat)) (by omega)) (bZ E (bF (x:=(n.natAbs/2^32:Nat)) (by omega)) bw)) E (by decide))<|Ws (f2 dV E E (dN (decide (n<0)) [(n.natAbs%4294967296:Nat),(n.natAbs/2^32:Nat)]))<|aG .n (aD (l:=kC) (u:=ival ((decide (n<0)),[(n.natAbs%4294967296:Nat),(n.natAbs/2^32:Nat)])) 0 E E E ab E Lr)<|Wn<|am<|tb 0 E (y:=n) of_val ?_
  exact Qd E (a5 E (ac 0 E) ab ak) ⟨E,E⟩
abbrev dh:=@c_ref02_Of
theorem c_ref02_Sign (z:Int):Fn Tryz.prog 88 [kZ.is z] (kN6.is z.sign):=by
 refine aK Tryz.func88 E E fun m w=>cG 0 E fun y y_v y_n y_l=>Cr<|a6 .n E fun b1=>Wa E<|Wr<|Ws (aM E bK E)<|Ws (ae E (ac 0 E) (aN Li) bM E)<|Ws (f1 dz E (dw y.2))<|Wa E<|Wn<|aa<|aw<|Cr<|Wm E<|Ws (aA E U27)<|Ws (bR E E)<|Wa E ?_
 refine Wn ?_
 refine aB E (fun h_t7=>?_)<|fun h_t7=>?_
 ·
  refine Cr<|Wa E<|Wn<|am<|bE<|aQ<|tl 2 E (y:=z.sign) (by rw [←y_v,ival0 (limbs0 (by omega))];rfl) ?_
  exact Qd E (ar E ak) ⟨E,E⟩
 ·
  refine Cr<|Ws (aM E cw E)<|Ws (ae E (ac 0 E) (aU Li) cy E)<|Wa E<|Wn ?_
  refine dx E (fun h_t11=>?_)<|fun h_t11=>?_
  ·
   refine Cr<|Wa E<|Wn<|am<|bE<|aQ<|tl 2 E (y:=z.sign) (by rw [←y_v];exact rsign_neg (by omega) h_t11) ?_
   exact Qd E (ar E ak) ⟨E,E⟩
  ·
   refine cc<|Qb<|Cr<|Wa E<|Wn<|am<|tl 2 E (y:=z.sign) (by rw [←y_v];exact rsign_pos (by omega) h_t11) ?_
   exact Qd E (ar E ak) ⟨E,E⟩
abbrev dO:=@c_ref02_Sign
theorem c_ref02_Bits (z:Int):Fn Tryz.prog 61 [kZ.is z] (kN6.is (bitlen z.natAbs:Int)):=by
 refine aK Tryz.func61 E E fun m w=>cG 0 E fun y y_v y_n y_l=>Cr<|a6 .n E fun b1=>Wa E<|Wr<|Ws (aM E bK E)<|Ws (ae E (ac 0 E) (aN Li) bM E)<|Ws (f1 fn125 E (e9 y.2))<|Wa E<|Wn<|am<|tl 2 E (y:=(bitlen z.natAbs:Int)) (by rw [←y_v,ival_abs]) ?_
 exact Qd E (ar E ak) ⟨E,E⟩
theorem c_ref02_Add (x y:Int):Fn Tryz.prog 127 [kZ.is x,kZ.is y] (kC.is (x+y)):=by
 refine aK Tryz.func127 E E fun m w=>cG 0 E fun p p_v p_n p_l=>cG 1 E fun q q_v q_n q_l=>Cr<|a6 .n E fun b1=>a6 .n E fun b2=>a8 .n aZ fun b3=>Wn<|aa<|Cr<|Ws (aM E cw E)<|Ws (ae E (ac 2 E) (aU Li) cy E)<|Ws (aM E cw E)<|Ws (ae E (ac 1 E) (aU Li) cy E)<|Ws (O.eqB E E U4)<|Wn ?_
 refine aB E (fun h_t13=>?_)<|fun h_t13=>?_
 ·
  refine aa ?_
  refine ba (Γ:=[.fr (VP.pt b1 0),.fr (kBool.is p.1),.fr (VP.pt b1 1),.fr (kN.is p.2),.fr (VP.pt b2 1),.fr (kN.is q.2),.fr (kN.is (limbs (nval p.2+nval q.2))),.fr (kC.is (ival (p.1,(limbs (nval p.2+nval q.2)))))]) (J E (fun N=>aM E cw E) (J E (fun N=>ae E (mN N 2 E) (aU Li) cy E) (J E (fun N=>aM E bK E) (J E (fun N=>ae E (mN N 2 E) (aN Li) bM E) (J E (fun N=>aM E bK E) (J E (fun N=>ae E (mN N 1 E) (aN Li) bM E) (J E (fun N=>f2 fn196 E E (c_ref01_Add p.2 q.2 (by omega) (by omega))) (J E (fun N=>f2 dV E E (dN p.1 (limbs (nval p.2+nval q.2)))) oz))))))))<|fun σ=>?_
  refine aG .n (aD (l:=kC) (u:=ival (p.1,(limbs (nval p.2+nval q.2)))) 0 E E E ab E Lr)<|Wn<|am<|aQ ?_
  exact Qd E (dE E (ac 0 E) ab (ag (y:=x+y) (by rw [←p_v,←q_v];first | exact add_same h_t13 | exact radd_ge h_t13 h_t27 | exact radd_lt h_t13 h_t27)) ak) ⟨E,E⟩
 ·
  refine Ck<|aa<|Cr<|Ws (aM E bK E)<|Ws (ae E (ac 2 E) (aN Li) bM E)<|Ws (aM E bK E)<|Ws (ae E (ac 1 E) (aN Li) bM E)<|Ws (f2 fn197 E E (eR p.2 q.2))<|Ws (cR E E)<|Wn ?_
  refine aB E (fun h_t27=>?_)<|fun h_t27=>?_
  ·
   refine Cr<|Ws (aM E bK E)<|Ws (ae E (ac 2 E) (aN Li) bM E)<|Ws (aM E bK E)<|Ws (ae E (ac 1 E) (aN Li) bM E)<|Ws (f2 fn198 E E (c_ref01_Sub p.2 q.2))<|Wm E<|Ws (aH E E)<|Ws (aH E E)<|Wa E<|Wa E<|Wr<|Ws (aM E cw E)<|Ws (ae E (ac 2 E) (aU Li) cy E)<|Wm E<|Ws (f2 dV E E (dN p.1 (if nval p.2<nval q.2 then [] else limbs (nval p.2-nval q.2))))<|aG .n (aD (l:=kC) (u:=ival (p.1,(if nval p.2<nval q.2 then [] else limbs (nval p.2-nval q.2)))) 0 E E E ab E Lr)<|Wn<|am ?_
   refine aQ ?_
   exact Qd E (dE E (ac 0 E) ab (ag (y:=x+y) (by rw [←p_v,←q_v];first | exact add_same h_t13 | exact radd_ge h_t13 h_t27 | exact radd_lt h_t13 h_t27)) ak) ⟨E,E⟩
  ·
   refine Ck<|Cr<|Ws (aM E bK E)<|Ws (ae E (ac 1 E) (aN Li) bM E)<|Ws (aM E bK E)<|Ws (ae E (ac 2 E) (aN Li) bM E)<|Ws (f2 fn198 E E (c_ref01_Sub q.2 p.2))<|Wm E<|Ws (aH E E)<|Ws (aH E E)<|Wa E<|Wa E<|Wr<|Ws (aM E cw E)<|Ws (ae E (ac 1 E) (aU Li) cy E)<|Wm E<|Ws (f2 dV E E (dN q.1 (if nval q.2<nval p.2 then [] else limbs (nval q.2-nval p.2))))<|aG .n (aD (l:=kC) (u:=ival (q.1,(if nval q.2<nval p.2 then [] else limbs (nval q.2-nval p.2)))) 0 E E E ab E Lr)<|aj ?_
   refine bS<|am ?_
   exact Qd E (dE E (ac 0 E) ab (ag (y:=x+y) (by rw [←p_v,←q_v];first | exact add_same h_t13 | exact radd_ge h_t13 h_t27 | exact radd_lt h_t13 h_t27)) ak) ⟨E,E⟩
abbrev eu:=@c_ref02_Add
end Fw
namespace Fw
open Go (IntKind)
theorem nval_set {l:List Nat} {k d:Nat} (h:k<l.length):nval (l.set k d)+4294967296^k*l.getD k 0=nval l+4294967296^k*d:=by
  have h1:=split_at (l:=l) (i:=k+1) (by omega) (by omega)
  have h2:=split_at (l:=l.set k d) (i:=k+1) (by simp;omega) (by omega)
  simp only [Nat.add_sub_cancel] at h1 h2
  rw [List.take_set_of_le (by omega),List.drop_set_of_lt (by omega)] at h2
  have h3:(l.set k d).getD k 0=d:=by
    rw [List.getD_eq_getElem?_getD,List.getElem?_set_self h];rfl
  rw [h3] at h2
  rw [h1,h2,Nat.mul_add,Nat.mul_add]
  omega
theorem getD_set_ne' {l:List Nat} {k j d:Nat} (h:k≠j):(l.set k d).getD j 0=l.getD j 0:=by
  rw [List.getD_eq_getElem?_getD,List.getElem?_set_ne h,←List.getD_eq_getElem?_getD]
theorem Lims.set {l:List Nat} {k d:Nat} (h:Lims l) (hd:d<4294967296):Lims (l.set k d):=fun x hx=>by
  rcases List.mem_or_eq_of_mem_set hx with hx | rfl
  · exact h x hx
  · exact hd
theorem mul_bd {a b:Nat} (ha:a<4294967296) (hb:b<4294967296):a*b≤18446744065119617025:=by
  have:a*b≤4294967295*4294967295:=Nat.mul_le_mul (by omega) (by omega)
  omega
def MulO (A B row:List Nat) (i:Nat):Prop:=Lims row∧row.length=A.length+B.length∧nval row=nval (A.take i)*nval B∧∀p,i+B.length≤p→row.getD p 0=0
def MulI (A B row:List Nat) (i j c:Nat):Prop:=Lims row∧row.length=A.length+B.length∧c<4294967296∧nval row+4294967296^(i+j)*c=nval (A.take i)*nval B+4294967296^i*(A.getD i 0*nval (B.take j))∧∀p,i+B.length≤p→row.getD p 0=0
theorem mulO_0 (A B:List Nat):MulO A B (List.replicate (A.length+B.length) 0) 0:=by
  refine ⟨fun x hx=>?_,by simp,by simp [nval_replicate0,nval],fun p hp=>?_⟩
  · have:=(List.mem_replicate.1 hx).2;omega
  · rw [List.getD_eq_getElem?_getD,List.getElem?_replicate];split <;> rfl
theorem mulI_0 {A B row:List Nat} {i:Nat} (h:MulO A B row i):MulI A B row i 0 0:=by
  obtain ⟨h1,h2,h3,h4⟩:=h
  exact ⟨h1,h2,by omega,by simp [nval,h3],h4⟩
theorem mulI_s {A B row:List Nat} {i j c:Nat} (lA:Lims A) (lB:Lims B) (hi:i<A.length) (hj:j<B.length) (h:MulI A B row i j c):MulI A B (row.set (i+j) ((c+(A.getD i 0*B.getD j 0+row.getD (i+j) 0))%4294967296)) i (j+1) ((c+(A.getD i 0*B.getD j 0+row.getD (i+j) 0))/2^32):=by
  obtain ⟨h1,h2,h3,h4,h5⟩:=h
  have a1:=getD_lt h1 (i+j)
  have a2:=mul_bd (getD_lt lA i) (getD_lt lB j)
  generalize hs:c+(A.getD i 0*B.getD j 0+row.getD (i+j) 0)=s
  have hset:=nval_set (l:=row) (k:=i+j) (d:=s%4294967296) (by omega)
  refine ⟨h1.set (by omega),by simpa using h2,by omega,?_,fun p hp=>?_⟩
  · rw [nval_take_succ,←Nat.add_assoc,Nat.pow_succ,Nat.mul_assoc]
    have e1:4294967296^(i+j)*(4294967296*(s/2^32))+4294967296^(i+j)*(s%4294967296)=4294967296^(i+j)*s:=by
      rw [←Nat.mul_add];congr 1;omega
    have e2:4294967296^(i+j)*s=4294967296^(i+j)*c+(4294967296^(i+j)*(A.getD i 0*B.getD j 0)+4294967296^(i+j)*row.getD (i+j) 0):=by
      rw [←hs,Nat.mul_add,Nat.mul_add]
    have e3:4294967296^i*(A.getD i 0*(nval (B.take j)+4294967296^j*B.getD j 0))=4294967296^i*(A.getD i 0*nval (B.take j))+4294967296^(i+j)*(A.getD i 0*B.getD j 0):=by
      rw [Nat.mul_add,Nat.mul_add,Nat.pow_add]
      congr 1
      rw [Nat.mul_assoc]
      congr 1
      rw [←Nat.mul_assoc,←Nat.mul_assoc,Nat.mul_comm (A.getD i 0)]
    rw [e3]
    omega
  · rw [getD_set_ne' (by omega)];exact h5 p hp
theorem mulI_end {A B row:List Nat} {i c:Nat} (hi:i<A.length) (h:MulI A B row i B.length c):MulO A B (row.set (i+B.length) c) (i+1):=by
  obtain ⟨h1,h2,h3,h4,h5⟩:=h
  have hset:=nval_set (l:=row) (k:=i+B.length) (d:=c) (by omega)
  rw [h5 _ (Nat.le_refl _),Nat.mul_zero,Nat.add_zero,h4,List.take_length] at hset
  refine ⟨h1.set h3,by simpa using h2,?_,fun p hp=>?_⟩
  · rw [hset,nval_take_succ,Nat.add_mul,Nat.mul_assoc]
  · rw [getD_set_ne' (by omega)];exact h5 p (by omega)
theorem mulO_end {A B row:List Nat} {i:Nat} (hi:i=A.length) (h:MulO A B row i):nval row=nval A*nval B:=by
  obtain ⟨h1,h2,h3,h4⟩:=h
  rw [h3,hi,List.take_length]
def ShortR (l row:List Nat) (d i r:Nat):Prop:=Lims row∧row.length=l.length∧r<d∧nval (l.drop i)=nval (row.drop i)*d+r
theorem drop_set {l:List Nat} {i d:Nat} (h:i<l.length):(l.set i d).drop i=d::l.drop (i+1):=by
  rw [List.drop_eq_getElem_cons (by simpa using h),List.getElem_set_self,List.drop_set_of_lt (by omega)]
theorem shortR_0 {l:List Nat} {d:Nat} (hd:d≠0):ShortR l (List.replicate l.length 0) d l.length 0:=by
  refine ⟨fun x hx=>?_,by simp,by omega,?_⟩
  · have:=(List.mem_replicate.1 hx).2;omega
  · rw [List.drop_length,List.drop_of_length_le (by simp)];simp [nval]
theorem shortR_s {l row:List Nat} {d i r:Nat} (lL:Lims l) (hd:d<4294967296) (hi:i≤l.length) (h0:0<i) (h:ShortR l row d i r):ShortR l (row.set (i-1) ((r*2^32+l.getD (i-1) 0)/d)) d (i-1) ((r*2^32+l.getD (i-1) 0)%d):=by
  obtain ⟨h1,h2,h3,h4⟩:=h
  have hx:=getD_lt lL (i-1)
  generalize hs:r*2^32+l.getD (i-1) 0=s
  have hq:s/d<4294967296:=by
    rw [Nat.div_lt_iff_lt_mul (by omega)]
    have:(r+1)*4294967296≤d*4294967296:=Nat.mul_le_mul_right _ h3
    rw [Nat.mul_comm 4294967296 d]
    omega
  refine ⟨h1.set hq,by simpa using h2,Nat.mod_lt _ (by omega),?_⟩
  rw [nval_drop,show i-1+1=i from by omega,h4,drop_set (by omega),nval,show i-1+1=i from by omega]
  have e1:=Nat.div_add_mod s d
  have e2:(s/d+4294967296*nval (row.drop i))*d=d*(s/d)+4294967296*(nval (row.drop i)*d):=by
    rw [Nat.add_mul,Nat.mul_comm (s/d),Nat.mul_assoc]
  rw [e2]
  omega
theorem short_q {r x d:Nat} (h3:r<d) (hx:x<4294967296):(r*2^32+x)/d<4294967296:=by
  rw [Nat.div_lt_iff_lt_mul (by omega)]
  have:(r+1)*4294967296≤d*4294967296:=Nat.mul_le_mul_right _ h3
  rw [Nat.mul_comm 4294967296 d]
  omega
theorem shortR_end {l row:List Nat} {d i r:Nat} (hi:i=0) (h:ShortR l row d i r):nval row=nval l/d∧r=nval l%d:=by
  obtain ⟨h1,h2,h3,h4⟩:=h
  subst hi
  simp only [List.drop_zero] at h4
  rw [h4]
  constructor
  · rw [Nat.mul_comm,Nat.mul_add_div (by omega),Nat.div_eq_of_lt h3,Nat.add_zero]
  · rw [Nat.mul_comm,Nat.mul_add_mod,Nat.mod_eq_of_lt h3]
end Fw
namespace Fw
open Go Go.Proofs
theorem c_ref01_Mul (a b:List Nat) (hAB:a.length+b.length≤1099511627776):Fn Tryz.prog 199 [kN.is a,kN.is b] (kN.is (limbs (nval a*nval b))):=by
 refine aK Tryz.func199 E E fun m w=>aR (i:=0) E ce fun la=>aR (i:=1) E ce fun lb=>Cr<|Wa E<|Wr<|Wm E<|Ws (aA E U27)<|Wm E<|Ws (aA E U27)<|Ws (aI E E (c:=((a.length:Int)+(b.length:Int))) (ay (by omega)))<|bp ((((a.length:Int)+(b.length:Int))).toNat) .n E E (by omega) (by omega) U27 bO dC fun v1=>Wa E<|Wn<|aa<|Cr<|Wa E<|aj ?_
 refine bS<|aw<|bX (fun (row:List Nat) (i:Nat)=>i≤a.length∧MulO a b row i) (fun (row:List Nat) (i:Nat)=>[(0,kN.is a),(1,kN.is b),(5,VP.ex v1),(6,kN6.is (i:Int))]) (fun (row:List Nat) (i:Nat)=>[OB.row v1 93 kLimb row]) (fun (row:List Nat) (i:Nat)=>a.length-i) (List.replicate (a.length+b.length) 0) 0 ⟨Nat.zero_le _,mulO_0 _ _⟩ (Z E (Z E (Z E (ao E (ag (y:=(0:Int)) (by omega)) ai)))) (aW (OS.keepLe (a9 (by rfl)) OS.nil)) ?_
 intro row i ⟨hi,hO⟩
 have hrl:=hO.2.1
 refine aa<|Cr<|Wm E<|Wm E<|Ws (aA E U27)<|Ws (aS E E)<|Wn ?_
 refine aB E (fun h_t18=>?_)<|fun h_t18=>?_
 ·
  refine Ck<|aa<|aw<|Cr<|Wa E<|Wn<|aa<|Cr<|Wa E<|Wn<|aw<|da (fun (row:List Nat) (j:Nat) (c:Nat)=>j≤b.length∧MulI a b row i j c) (fun (row:List Nat) (j:Nat) (c:Nat)=>[(0,kN.is a),(1,kN.is b),(5,VP.ex v1),(6,kN6.is (i:Int)),(7,(kInt .u64).is (c:Int)),(8,kN6.is (j:Int))]) (fun (row:List Nat) (j:Nat) (c:Nat)=>[OB.row v1 93 kLimb row]) (fun (row:List Nat) (j:Nat) (c:Nat)=>b.length-j) row 0 0 ⟨Nat.zero_le _,mulI_0 hO⟩ (af E E E E (ao E (ag (y:=(0:Int)) (by omega)) (ao E (ag (y:=(0:Int)) (by omega)) ai))) (au _) ?_
  intro row j c ⟨hj,hI⟩
  have hrl:=hI.2.1
  have hc:=hI.2.2.1
  have hx:=getD_lt la i
  have hy:=getD_lt lb j
  have hz:=getD_lt hI.1 (i+j)
  have hxy:=mul_bd hx hy
  refine aa<|Cr<|Wm E<|Wm E<|Ws (aA E U27)<|Ws (aS E E)<|Wn ?_
  refine aB E (fun h_t24=>?_)<|fun h_t24=>?_
  ·
   refine Ck<|aa<|aw<|aa ?_
   refine ba (Γ:=[.fr ((kInt .u64).is (c:Int)),.fr (VP.ex v1),.fr (kN6.is (i:Int)),.fr (kN6.is (j:Int)),.fr (kN6.is ((i:Int)+(j:Int))),.fr (VP.pel v1 ((i+j)*1)),.fr ((kInt .u32).is ((row.getD (i+j) 0):Int)),.fr ((kInt .u64).is ((row.getD (i+j) 0):Int)),.fr ((kInt .u64).is ((c:Int)+((row.getD (i+j) 0):Int))),.fr (kN.is a),.fr (kN6.is (i:Int)),.fr (VP.pim kLimb (a.getD i 0)),.fr ((kInt .u32).is ((a.getD i 0):Int)),.fr ((kInt .u64).is ((a.getD i 0):Int)),.fr (kN.is b),.fr (kN6.is (j:Int)),.fr (VP.pim kLimb (b.getD j 0)),.fr ((kInt .u32).is ((b.getD j 0):Int)),.fr ((kInt .u64).is ((b.getD j 0):Int)),.fr ((kInt .u64).is ((a.getD i 0*b.getD j 0:Nat):Int)),.fr ((kInt .u64).is ((c+(a.getD i 0*b.getD j 0+row.getD (i+j) 0):Nat):Int))]) (om E E (om E E (om E E (om E E (J E (fun N=>aI E E (c:=((i:Int)+(j:Int))) (ay (by omega))) (J E (fun N=>aY (k:=kLimb) (xs:=row) (n:=((i:Int)+(j:Int))) (i+j) E E (mN N 0 E) U27 aP (by omega) (by omega)) (J E (fun N=>aV (bd (i+j) E (mN N 0 E) Li E (y:=(row.getD (i+j) 0)) (gd 0 (by omega)) aP E) (bQ _)) (J E (fun N=>bb E U93 U178 (c:=((row.getD (i+j) 0):Int)) (bA (by omega))) (J E (fun N=>aI E E (c:=((c:Int)+((row.getD (i+j) 0):Int))) (bA (by omega))) (om E E (om E E (J E (fun N=>aT i E E U27 aP E (v:=(a.getD i 0)) (gd 0 (by omega))) (J E (fun N=>aV (aO E aP) (bQ _)) (J E (fun N=>bb E U93 U178 (c:=((a.getD i 0):Int)) (bA (by omega))) (om E E (om E E (J E (fun N=>aT j E E U27 aP E (v:=(b.getD j 0)) (gd 0 (by omega))) (J E (fun N=>aV (aO E aP) (bQ _)) (J E (fun N=>bb E U93 U178 (c:=((b.getD j 0):Int)) (bA (by omega))) (J E (fun N=>dn E E (c:=((a.getD i 0*b.getD j 0:Nat):Int)) (bA ⟨by norm_cast,by omega,by omega⟩)) (J E (fun N=>aI E E (c:=((c+(a.getD i 0*b.getD j 0+row.getD (i+j) 0):Nat):Int)) (bA (by omega))) oz)))))))))))))))))))))<|fun σ=>?_
   refine Wa E<|Wr<|Wm E<|Wm E<|Wm E<|Ws (aI E E (c:=((i:Int)+(j:Int))) (ay (by omega)))<|Wm E<|Ws (d5 E E (by omega) (c:=(((c+(a.getD i 0*b.getD j 0+row.getD (i+j) 0))%4294967296:Nat):Int)) (tmodN 4294967296 E E))<|Ws (bb E U178 U93 (c:=(((c+(a.getD i 0*b.getD j 0+row.getD (i+j) 0))%4294967296:Nat):Int)) (cN (by omega)))<|Ws (aY (k:=kLimb) (xs:=row) (n:=((i:Int)+(j:Int))) (i+j) E E (ac 0 E) U27 aP (by omega) (by omega))<|aG .n (cd 0 (i+j) E E Li E (y0:=(row.getD (i+j) 0)) (gd 0 (by omega)) aP E (bF (x:=((c+(a.getD i 0*b.getD j 0+row.getD (i+j) 0))%4294967296:Nat)) (by omega)))<|Wn<|ah<|Wm E<|Ws (dM E E (by omega) (c:=(((c+(a.getD i 0*b.getD j 0+row.getD (i+j) 0))/2^32:Nat):Int)) (quoN (2^32) E E (by omega)))<|Wa E<|aj<|Qb<|ah ?_
   refine Wm E<|Ws (aI E E (c:=((j:Int)+1)) (ay (by omega)))<|Wa E<|aj ?_
   exact cM (row.set (i+j) ((c+(a.getD i 0*b.getD j 0+row.getD (i+j) 0))%4294967296)) (j+1) ((c+(a.getD i 0*b.getD j 0+row.getD (i+j) 0))/2^32) (by omega) ⟨by omega,mulI_s la lb (by omega) (by omega) hI⟩ (af E E E E (ao E (ag (y:=((((c+(a.getD i 0*b.getD j 0+row.getD (i+j) 0))/2^32):Nat):Int)) (by omega)) (ao E (ag (y:=(((j+1):Nat):Int)) (by omega)) ai)))<|aW<|OS.keepLe (a9 (by rfl)) OS.nil
  ·
   refine Ex<|ah<|Wm E<|Wm E<|Wm E<|Ws (aA E U27)<|Ws (aI E E (c:=((i:Int)+(b.length:Int))) (ay (by omega)))<|Wm E<|Ws (bb E U178 U93 (c:=(c:Int)) (cN (by omega)))<|Ws (aY (k:=kLimb) (xs:=row) (n:=((i:Int)+(b.length:Int))) (i+b.length) E E (ac 0 E) U27 aP (by omega) (by omega))<|aG .n (cd 0 (i+b.length) E E Li E (y0:=(row.getD (i+b.length) 0)) (gd 0 (by omega)) aP E (bF (x:=c) (by omega)))<|aj<|Qb<|ah<|Wm E<|Ws (aI E E (c:=((i:Int)+1)) (ay (by omega)))<|Wa E<|aj ?_
   have hjb:j=b.length:=by omega
   exact bP (row.set (i+b.length) c) (i+1) (by omega) ⟨by omega,mulI_end (by omega) (hjb▸hI)⟩ (Z E (Z E (Z E (ao E (ag (y:=(((i+1):Nat):Int)) (by omega)) ai))))<|au _
 ·
  refine Ex<|Cr<|Wm E<|bJ 0 E (kp 0 E (kp 1 E (.hit (i:=5) E (kp 6 E (kp 15 E (kp 16 E (kp 17 E (kp 18 E (.hit (i:=66) E .nil)))))))))<|Ws (f1 dz E (dw row))<|Wa E<|Wn<|am<|tl 4 E (y:=(limbs (nval a*nval b))) (by rw [mulO_end (by omega) hO]) ?_
  exact Qd E (ar E ak) ⟨E,E⟩
abbrev eQ:=@c_ref01_Mul
theorem c_ref02_Neg (z:Int):Fn Tryz.prog 209 [kZ.is z] (kC.is (-z)):=by
 refine aK Tryz.func209 E E fun m w=>cG 0 E fun y y_v y_n y_l=>Cr<|a6 .n E fun b1=>a8 .n aZ fun b2=>Wr<|Ws (aM E cw E)<|Ws (ae E (ac 1 E) (aU Li) cy E)<|Ws (di E)<|Ws (aM E bK E)<|Ws (ae E (ac 1 E) (aN Li) bM E)<|Ws (f2 dV E E (dN (!y.1) y.2))<|aG .n (aD (l:=kC) (u:=ival ((!y.1),y.2)) 0 E E E ab E Lr)<|Wn<|am<|tb 0 E (y:=(-z)) (by rw [←y_v];exact ival_not) ?_
 exact Qd E (a5 E (ac 0 E) ab ak) ⟨E,E⟩
abbrev fb:=@c_ref02_Neg
theorem c_ref02_Abs (z:Int):Fn Tryz.prog 165 [kZ.is z] (kC.is (z.natAbs:Int)):=by
 refine aK Tryz.func165 E E fun m w=>cG 0 E fun y y_v y_n y_l=>Cr<|a6 .n E fun b1=>a8 .n aZ fun b2=>Wr<|Ws (aM E bK E)<|Ws (ae E (ac 1 E) (aN Li) bM E)<|Ws (f2 dV E E (dN false y.2))<|aG .n (aD (l:=kC) (u:=ival (false,y.2)) 0 E E E ab E Lr)<|Wn<|am<|tb 0 E (y:=(z.natAbs:Int)) (by rw [←y_v,ival_abs];rfl) ?_
 exact Qd E (a5 E (ac 0 E) ab ak) ⟨E,E⟩
theorem c_ref02_Norm (z:Int):Fn Tryz.prog 113 [kZ.is z] (kC.is z):=by
 refine aK Tryz.func113 E E fun m w=>cG 0 E fun y y_v y_n y_l=>Cr<|a6 .n E fun b1=>a8 .n aZ fun b2=>Wr<|Ws (aM E cw E)<|Ws (ae E (ac 1 E) (aU Li) cy E)<|Ws (aM E bK E)<|Ws (ae E (ac 1 E) (aN Li) bM E)<|Ws (f2 dV E E (dN y.1 y.2))<|aG .n (aD (l:=kC) (u:=ival (y.1,y.2)) 0 E E E ab E Lr)<|Wn<|am<|tb 0 E (y:=z) y_v ?_
 exact Qd E (a5 E (ac 0 E) ab ak) ⟨E,E⟩
abbrev eh:=@c_ref02_Norm
theorem c_ref02_Sub (x y:Int):Fn Tryz.prog 161 [kZ.is x,kZ.is y] (kC.is (x-y)):=by
 refine aK Tryz.func161 E E fun m w=>aR (i:=1) E dF fun hsy=>Cr<|a6 .n E fun b1=>a6 .n E fun b2=>a8 .n aZ fun b3=>Wn<|aa ?_
 refine ba (Γ:=[.fr (kZ.is x),.fr (kZ.is y),.fr (kC.is (-y)),.fr (kC.is (x+(-y)))]) (J E (fun N=>ae E (mN N 2 E) Li ab E) (J E (fun N=>ae E (mN N 1 E) Li ab E) (J E (fun N=>f1 fn209 E (fb y)) (J E (fun N=>aF fn127 (aX E (aq E (aJ (ec (by assumption))) ax)) (eu x (-y))) oz))))<|fun σ=>?_
 refine aG .n (aD (l:=kC) (u:=x+(-y)) 0 E E E ab E Lr)<|Wn<|am<|tb 0 E (y:=(x-y)) (Int.sub_eq_add_neg).symm ?_
 exact Qd E (a5 E (ac 0 E) ab ak) ⟨E,E⟩
abbrev eP:=@c_ref02_Sub
theorem c_ref02_Mul (x y:Int):Fn Tryz.prog 128 [kZ.is x,kZ.is y] (kC.is (x*y)):=by
 refine aK Tryz.func128 E E fun m w=>cG 0 E fun p p_v p_n p_l=>cG 1 E fun q q_v q_n q_l=>Cr<|a6 .n E fun b1=>a6 .n E fun b2=>a8 .n aZ fun b3=>Wn<|aa ?_
 refine ba (Γ:=[.fr (VP.pt b1 0),.fr (kBool.is p.1),.fr (VP.pt b2 0),.fr (kBool.is q.1),.fr (kBool.is (decide (p.1≠q.1))),.fr (VP.pt b1 1),.fr (kN.is p.2),.fr (VP.pt b2 1),.fr (kN.is q.2),.fr (kN.is (limbs (nval p.2*nval q.2))),.fr (kC.is (ival ((decide (p.1≠q.1)),(limbs (nval p.2*nval q.2)))))]) (J E (fun N=>aM E cw E) (J E (fun N=>ae E (mN N 2 E) (aU Li) cy E) (J E (fun N=>aM E cw E) (J E (fun N=>ae E (mN N 1 E) (aU Li) cy E) (J E (fun N=>O.neB E E U4) (J E (fun N=>aM E bK E) (J E (fun N=>ae E (mN N 2 E) (aN Li) bM E) (J E (fun N=>aM E bK E) (J E (fun N=>ae E (mN N 1 E) (aN Li) bM E) (J E (fun N=>f2 fn199 E E (eQ p.2 q.2 (by omega))) (J E (fun N=>f2 dV E E (dN (decide (p.1≠q.1)) (limbs (nval p.2*nval q.2)))) oz)))))))))))<|fun σ=>?_
 refine aG .n (aD (l:=kC) (u:=ival ((decide (p.1≠q.1)),(limbs (nval p.2*nval q.2)))) 0 E E E ab E Lr)<|Wn<|am<|tb 0 E (y:=(x*y)) (by rw [←p_v,←q_v];exact ival_mul) ?_
 exact Qd E (a5 E (ac 0 E) ab ak) ⟨E,E⟩
abbrev dl:=@c_ref02_Mul
theorem c_ref02_Cmp (x y:Int) (hS:Sm (x-y)):Fn Tryz.prog 129 [kZ.is x,kZ.is y] (kN6.is ((x-y).sign)):=by
 refine aK Tryz.func129 E E fun m w=>Cr<|a6 .n E fun b1=>a6 .n E fun b2=>Wa E<|Wr<|Ws (ae E (ac 1 E) Li ab E)<|Ws (ae E (ac 0 E) Li ab E)<|Ws (f2 fn161 E E (eP x y))<|Ws (aF fn88 (aq E (aJ (by assumption)) ax) (dO (x-y)))<|Wa E<|Wn<|am ?_
 exact Qd E (ar E ak) ⟨E,E⟩
theorem c_nat_Mul (a b:List Nat) (hAB:a.length+b.length≤1099511627776):Fn Tryz.prog 193 [kN.is a,kN.is b] (kN.is (limbs (nval a*nval b))):=by
 refine aK Tryz.func193 E E fun m w=>aR (i:=0) E ce fun la=>aR (i:=1) E ce fun lb=>?_
 have hla:=limbs_len_le la
 have hlb:=limbs_len_le lb
 refine Cr<|Wa E<|Wr<|Wm E<|Ws (f1 cT E (cW a))<|Wm E<|Ws (f1 cT E (cW b))<|Wa E<|Wa E<|Wr<|Wm E<|Ws (aA E U27)<|Wm E<|Ws (aA E U27)<|Ws (aI E E (c:=(((limbs (nval a)).length:Int)+((limbs (nval b)).length:Int))) (ay (by omega)))<|bp (((((limbs (nval a)).length:Int)+((limbs (nval b)).length:Int))).toNat) .n E E (by omega) (by omega) U27 bO dC fun v1=>Wa E ?_
 refine Wn<|aa<|Cr<|Wm E<|Ws (aA E U27)<|Wm E<|Wn<|aw<|da (fun (row:List Nat) (i:Nat) (v:Value)=>i≤(limbs (nval a)).length∧MulO (limbs (nval a)) (limbs (nval b)) row i) (fun (row:List Nat) (i:Nat) (v:Value)=>[(0,kN.is (limbs (nval a))),(1,kN.is (limbs (nval b))),(5,VP.ex v),(20,kN6.is ((limbs (nval a)).length:Int)),(21,kN6.is (i:Int))]) (fun (row:List Nat) (i:Nat) (v:Value)=>[OB.row v 93 kLimb row]) (fun (row:List Nat) (i:Nat) (v:Value)=>(limbs (nval a)).length-i) (List.replicate ((limbs (nval a)).length+(limbs (nval b)).length) 0) 0 v1 ⟨Nat.zero_le _,mulO_0 _ _⟩ (af E E E E (ao E (ag (y:=(0:Int)) (by omega)) ai)) (aW (OS.keepLe (a9 (by rfl)) OS.nil)) ?_
 intro row i v ⟨hi,hO⟩
 have hrl:=hO.2.1
 refine Cr<|Ws (aS E E)<|Wn<|aa ?_
 refine aB E (fun h_t22=>?_)<|fun h_t22=>?_
 ·
  refine Ck<|aa<|aw<|Cr<|Wm E<|Wa E<|Wr<|Wa E<|Wn<|aa<|Cr<|Wm E<|Ws (aA E U27)<|Wm E<|Wn<|aw ?_
  refine da (fun (row:List Nat) (j:Nat) (c:Nat)=>j≤(limbs (nval b)).length∧MulI (limbs (nval a)) (limbs (nval b)) row i j c) (fun (row:List Nat) (j:Nat) (c:Nat)=>[(0,kN.is (limbs (nval a))),(1,kN.is (limbs (nval b))),(5,VP.ex v),(6,kN6.is (i:Int)),(7,(kInt .u64).is (c:Int)),(20,kN6.is ((limbs (nval a)).length:Int)),(21,kN6.is (i:Int)),(25,kN6.is ((limbs (nval b)).length:Int)),(26,kN6.is (j:Int))]) (fun (row:List Nat) (j:Nat) (c:Nat)=>[OB.row v 93 kLimb row]) (fun (row:List Nat) (j:Nat) (c:Nat)=>(limbs (nval b)).length-j) row 0 0 ⟨Nat.zero_le _,mulI_0 hO⟩ (af E E E E (ao E (ag (y:=(0:Int)) (by omega)) (Z E (Z E (Z E (ao E (ag (y:=(0:Int)) (by omega)) ai)))))) (au _) ?_
  intro row j c ⟨hj,hI⟩
  have hrl:=hI.2.1
  have hc:=hI.2.2.1
  have hx:=getD_lt (limbs_lims (nval a)) i
  have hy:=getD_lt (limbs_lims (nval b)) j
  have hz:=getD_lt hI.1 (i+j)
  have hxy:=mul_bd hx hy
  refine Cr<|Ws (aS E E)<|Wn<|aa ?_
  refine aB E (fun h_t27=>?_)<|fun h_t27=>?_
  ·
   refine Ck<|aa<|aw<|Cr<|Wm E<|Wa E<|Wn<|aa ?_
   refine ba (Γ:=[.fr ((kInt .u64).is (c:Int)),.fr (kN.is (limbs (nval a))),.fr (kN6.is (i:Int)),.fr (VP.pim kLimb ((limbs (nval a)).getD i 0)),.fr ((kInt .u32).is (((limbs (nval a)).getD i 0):Int)),.fr ((kInt .u64).is (((limbs (nval a)).getD i 0):Int)),.fr (kN.is (limbs (nval b))),.fr (kN6.is (j:Int)),.fr (VP.pim kLimb ((limbs (nval b)).getD j 0)),.fr ((kInt .u32).is (((limbs (nval b)).getD j 0):Int)),.fr ((kInt .u64).is (((limbs (nval b)).getD j 0):Int)),.fr ((kInt .u64).is (((limbs (nval a)).getD i 0*(limbs (nval b)).getD j 0:Nat):Int)),.fr (VP.ex v),.fr (kN6.is (i:Int)),.fr (kN6.is (j:Int)),.fr (kN6.is ((i:Int)+(j:Int))),.fr (VP.pel v ((i+j)*1)),.fr ((kInt .u32).is ((row.getD (i+j) 0):Int)),.fr ((kInt .u64).is ((row.getD (i+j) 0):Int)),.fr ((kInt .u64).is (((limbs (nval a)).getD i 0*(limbs (nval b)).getD j 0+row.getD (i+j) 0:Nat):Int)),.fr ((kInt .u64).is (((c+((limbs (nval a)).getD i 0*(limbs (nval b)).getD j 0+row.getD (i+j) 0)):Nat):Int))]) (om E E (om E E (om E E (J E (fun N=>aT i E E U27 aP E (v:=((limbs (nval a)).getD i 0)) (gd 0 (by omega))) (J E (fun N=>aV (aO E aP) (bQ _)) (J E (fun N=>bb E U93 U178 (c:=(((limbs (nval a)).getD i 0):Int)) (bA (by omega))) (om E E (om E E (J E (fun N=>aT j E E U27 aP E (v:=((limbs (nval b)).getD j 0)) (gd 0 (by omega))) (J E (fun N=>aV (aO E aP) (bQ _)) (J E (fun N=>bb E U93 U178 (c:=(((limbs (nval b)).getD j 0):Int)) (bA (by omega))) (J E (fun N=>dn E E (c:=(((limbs (nval a)).getD i 0*(limbs (nval b)).getD j 0:Nat):Int)) (bA ⟨by norm_cast,by omega,by omega⟩)) (om E E (om E E (om E E (J E (fun N=>aI E E (c:=((i:Int)+(j:Int))) (ay (by omega))) (J E (fun N=>aY (k:=kLimb) (xs:=row) (n:=((i:Int)+(j:Int))) (i+j) E E (mN N 0 E) U27 aP (by omega) (by omega)) (J E (fun N=>aV (bd (i+j) E (mN N 0 E) Li E (y:=(row.getD (i+j) 0)) (gd 0 (by omega)) aP E) (bQ _)) (J E (fun N=>bb E U93 U178 (c:=((row.getD (i+j) 0):Int)) (bA (by omega))) (J E (fun N=>aI E E (c:=(((limbs (nval a)).getD i 0*(limbs (nval b)).getD j 0+row.getD (i+j) 0:Nat):Int)) (bA (by omega))) (J E (fun N=>aI E E (c:=(((c+((limbs (nval a)).getD i 0*(limbs (nval b)).getD j 0+row.getD (i+j) 0)):Nat):Int)) (bA (by omega))) oz)))))))))))))))))))))<|fun σ=>?_
   refine Wa E<|Wr<|Wm E<|Wm E<|Wm E<|Ws (aI E E (c:=((i:Int)+(j:Int))) (ay (by omega)))<|Wm E<|Ws (bb E U178 U93 (c:=(((c+((limbs (nval a)).getD i 0*(limbs (nval b)).getD j 0+row.getD (i+j) 0))%4294967296:Nat):Int)) (dg E))<|Ws (aY (k:=kLimb) (xs:=row) (n:=((i:Int)+(j:Int))) (i+j) E E (ac 0 E) U27 aP (by omega) (by omega))<|aG .n (cd 0 (i+j) E E Li E (y0:=(row.getD (i+j) 0)) (gd 0 (by omega)) aP E (bF (x:=((c+((limbs (nval a)).getD i 0*(limbs (nval b)).getD j 0+row.getD (i+j) 0))%4294967296:Nat)) (by omega)))<|Wn<|ah<|Wm E<|Ws (cP E E (by omega) (c:=(((c+((limbs (nval a)).getD i 0*(limbs (nval b)).getD j 0+row.getD (i+j) 0))/2^32:Nat):Int)) (cQ 32 E E (by decide)))<|Wa E<|aj<|Qb<|ah<|Ws (aI E E (c:=((j:Int)+1)) (ay (by omega))) ?_
   refine Wm E<|aj ?_
   exact cM (row.set (i+j) ((c+((limbs (nval a)).getD i 0*(limbs (nval b)).getD j 0+row.getD (i+j) 0))%4294967296)) (j+1) ((c+((limbs (nval a)).getD i 0*(limbs (nval b)).getD j 0+row.getD (i+j) 0))/2^32) (by omega) ⟨by omega,mulI_s (limbs_lims _) (limbs_lims _) (by omega) (by omega) hI⟩ (af E E E E (ao E (ag (y:=((((c+((limbs (nval a)).getD i 0*(limbs (nval b)).getD j 0+row.getD (i+j) 0))/2^32):Nat):Int)) (by omega)) (Z E (Z E (Z E (ao E (ag (y:=(((j+1):Nat):Int)) (by omega)) ai))))))<|aW<|OS.keepLe (a9 (by rfl)) OS.nil
  ·
   refine Ex<|ah<|Wm E<|Wm E<|Wm E<|Ws (aA E U27)<|Ws (aI E E (c:=((i:Int)+((limbs (nval b)).length:Int))) (ay (by omega)))<|Wm E<|Ws (bb E U178 U93 (c:=(c:Int)) (cN (by omega)))<|Ws (aY (k:=kLimb) (xs:=row) (n:=((i:Int)+((limbs (nval b)).length:Int))) (i+(limbs (nval b)).length) E E (ac 0 E) U27 aP (by omega) (by omega))<|aG .n (cd 0 (i+(limbs (nval b)).length) E E Li E (y0:=(row.getD (i+(limbs (nval b)).length) 0)) (gd 0 (by omega)) aP E (bF (x:=c) (by omega)))<|aj<|Qb<|ah<|Ws (aI E E (c:=((i:Int)+1)) (ay (by omega)))<|Wm E<|aj ?_
   have hjb:j=(limbs (nval b)).length:=by omega
   exact cM (row.set (i+(limbs (nval b)).length) c) (i+1) v (by omega) ⟨by omega,mulI_end (by omega) (hjb▸hI)⟩ (af E E E E (ao E (ag (y:=(((i+1):Nat):Int)) (by omega)) ai))<|au _
 ·
  refine Ex<|Cr<|Wm E<|bJ 0 E (kp 0 E (kp 1 E (.hit (i:=5) E (kp 20 E (kp 21 E (kp 22 E (.hit (i:=69) E .nil)))))))<|Ws (f1 cT E (cW row))<|Wa E<|Wn<|am<|tl 4 E (y:=(limbs (nval a*nval b))) (by rw [mulO_end (by omega) hO,nval_limbs,nval_limbs]) ?_
  exact Qd E (ar E ak) ⟨E,E⟩
theorem c_nat_short (l:List Nat) (d:Nat) (hd:d≠0):Fn Tryz.prog 271 [kN.is l,kLimb.is d] (VP.tup [kN.is (limbs (nval l/d)),(kInt .u32).is ((nval l%d:Nat):Int)]):=by
 refine aK Tryz.func271 E E fun m w=>aR (i:=0) E bu fun hB=>aR (i:=0) E ce fun hL=>aR (i:=1) E limb_lt fun hdl=>cC (q:=(kInt .u32).is (d:Int)) 1 E (bQ _)<|Cr<|Wa E<|Wa E<|Wr<|Wm E<|Ws (aA E U27)<|bp l.length .n E E E (by omega) U27 bO dC fun v1=>Wa E<|Wr<|Wa E<|Wn ?_
 refine aa<|Cr<|Wm E<|Ws (aA E U27)<|Ws (bq E E (c:=((l.length:Int)-1)) (ay (by omega)))<|Wa E<|Wn<|aw<|da (fun (row:List Nat) (i:Nat) (r:Nat)=>i≤l.length∧ShortR l row d i r) (fun (row:List Nat) (i:Nat) (r:Nat)=>[(0,kN.is l),(1,(kInt .u32).is (d:Int)),(6,VP.ex v1),(7,(kInt .u64).is (r:Int)),(8,kN6.is ((i:Int)-1))]) (fun (row:List Nat) (i:Nat) (r:Nat)=>[OB.row v1 93 kLimb row]) (fun (row:List Nat) (i:Nat) (r:Nat)=>i) (List.replicate l.length 0) l.length 0 ⟨Nat.le_refl _,shortR_0 hd⟩ (Z E (Z E (Z E (ao E (ag (y:=(0:Int)) (by omega)) (ao E (ag (y:=((l.length:Nat):Int)-1) (by omega)) ai))))) (au _) ?_
 intro row i r ⟨hi,hS⟩
 have hrl:=hS.2.1
 have hr:=hS.2.2.1
 have hx:=getD_lt hL (i-1)
 have hq:=short_q hr hx
 refine aa<|Cr<|Wm E<|Ws (cR E E)<|Wn ?_
 refine aB E (fun h_t16=>?_)<|fun h_t16=>?_
 ·
  refine Ck<|aa<|aw<|Cr<|Wm E<|Ws (O.shl E E (by omega) (c:=((r*2^32:Nat):Int)) (shlN 32 E E (by decide) (by omega)))<|Wm E<|Wm E<|Ws (aT (i-1) E E U27 aP (by omega) (v:=(l.getD (i-1) 0)) (gd 0 (by omega)))<|Ws (aV (aO E aP) (bQ _))<|Ws (bb E U93 U178 (c:=((l.getD (i-1) 0):Int)) (bA (by omega)))<|Ws (O.or E E (c:=((r*2^32+l.getD (i-1) 0:Nat):Int)) (orN 32 E E hx (by omega)))<|Wa E<|Wr<|Wm E<|Wm E<|Wm E<|Wm E<|Ws (bb E U93 U178 (c:=(d:Int)) (bA (by omega))) ?_
  refine Ws (dM E E (by omega) (c:=(((r*2^32+l.getD (i-1) 0)/d:Nat):Int)) (quoN d E E (by omega)))<|Ws (bb E U178 U93 (c:=(((r*2^32+l.getD (i-1) 0)/d:Nat):Int)) (cN ⟨E,short_q hr hx⟩))<|Ws (aY (k:=kLimb) (xs:=row) (n:=(i:Int)-1) (i-1) E E (ac 0 E) U27 aP (by omega) (by omega))<|aG .n (cd 0 (i-1) E E Li E (y0:=(row.getD (i-1) 0)) (gd 0 (by omega)) aP E (bF (x:=((r*2^32+l.getD (i-1) 0)/d:Nat)) (by omega)))<|Wn<|ah<|Wm E<|Wm E<|Ws (bb E U93 U178 (c:=(d:Int)) (bA (by omega)))<|Ws (d5 E E (by omega) (c:=(((r*2^32+l.getD (i-1) 0)%d:Nat):Int)) (tmodN d E E))<|Wa E<|aj<|Qb<|ah<|Wm E<|Ws (bq E E (c:=(((i:Int)-1)-1)) (ay (by omega)))<|Wa E<|aj ?_
  exact cM (row.set (i-1) ((r*2^32+l.getD (i-1) 0)/d)) (i-1) ((r*2^32+l.getD (i-1) 0)%d) (by omega) ⟨by omega,shortR_s hL hdl (by omega) (by omega) hS⟩ (Z E (Z E (Z E (ao E (ag (y:=((((r*2^32+l.getD (i-1) 0)%d):Nat):Int)) (by omega)) (ao E (ag (y:=(((i-1):Nat):Int)-1) (by omega)) ai)))))<|aW<|OS.keepLe (a9 (by rfl)) OS.nil
 ·
  refine Ex<|Cr<|Wm E<|bJ 0 E (kp 0 E (kp 1 E (.hit (i:=6) E (kp 7 E (kp 8 E (kp 15 E (kp 16 E (.hit (i:=39) E .nil))))))))<|Ws (f1 cT E (cW row))<|Wm E<|Ws (bb E U178 U93 (c:=(r:Int)) (cN (by omega)))<|Wa E<|Wa E<|Wn<|am<|tl 4 E (y:=(limbs (nval l/d))) (by rw [(shortR_end (by omega) hS).1])<|tl 5 E (y:=((nval l%d:Nat):Int)) (by rw [(shortR_end (by omega) hS).2]) ?_
  exact Qd E (ar E (ar E ak)) ⟨E,E⟩
end Fw
