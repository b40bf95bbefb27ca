/- Frame, facts and contracts for QuadReduces. -/
import Derived.Test.YtjbfmocbophmlaaGreatCQuadReducesB
set_option exponentiation.threshold 600
set_option linter.unusedVariables false
set_option linter.unusedSimpArgs false
set_option maxRecDepth 20000
set_option maxHeartbeats 1000000
namespace Fw
open Go (IntKind)
theorem ST.rowfact {C:Ctx} {K:Go.Act→Go.World→Prop} {ρ:Env} {L:List OB} {v:Go.Value} {e:Go.TypeId} {l:List Nat} (j:Nat) (hj:L[j]?=some (OB.row v e kLimb l)) (h:l.length≤1099511627776→Lims l→ST C K ρ L):ST C K ρ L:=fun m w a s t=>by
  obtain ⟨cells,h1,h2,h3⟩:=row_own s (List.mem_of_getElem? hj)
  exact h h3 (rows_lims h2) m w a s t
theorem win_get {l w r:List Nat} {o i:Nat} (ho:o≤l.length) (hi:i<w.length):(l.take o++w++r)[o+i]?=some (w.getD i 0):=by
  rw [List.append_assoc,List.getElem?_append_right (by simp;omega),List.getElem?_append_left (by simp;omega)]
  simp only [List.length_take,Nat.min_eq_left ho,Nat.add_sub_cancel_left]
  exact gd 0 hi
abbrev eX:=@win_get
theorem win_set {l w r:List Nat} {o i d:Nat} (ho:o≤l.length) (hi:i<w.length):(l.take o++w++r).set (o+i) d=l.take o++w.set i d++r:=by
  rw [List.append_assoc,List.set_append_right _ _ (by simp;omega),List.set_append_left _ _ (by simp;omega),List.append_assoc]
  simp only [List.length_take,Nat.min_eq_left ho,Nat.add_sub_cancel_left]
theorem win_len {l w:List Nat} {o n:Nat} (ho:o+n≤l.length) (hw:w.length=n):(l.take o++w++l.drop (o+n)).length=l.length:=by
  simp [hw];omega
theorem win_self {l:List Nat} {o n:Nat}:l=l.take o++(l.drop o).take n++l.drop (o+n):=by
  rw [List.append_assoc,←List.drop_drop,List.take_append_drop,List.take_append_drop]
theorem minN {a b:Nat}:min (a:Int) (b:Int)=((min a b:Nat):Int):=by omega
theorem dsub1 {x y:Nat} (hx:x<4294967296) (hy:y<4294967296):IntKind.u64.wrap ((x:Int)-(y:Int))=((lessV 0 x y:Nat):Int):=by
  unfold lessV
  simp [IntKind.wrap,IntKind.signed,IntKind.bits]
  split <;> omega
theorem dsub2 {c x y:Nat} (hc:c≤1) (hx:x<4294967296) (hy:y<4294967296):IntKind.u64.wrap (((lessV 0 x y:Nat):Int)-(c:Int))=((lessV c x y:Nat):Int):=by
  unfold lessV
  simp [IntKind.wrap,IntKind.signed,IntKind.bits]
  split <;> split <;> omega
theorem nval_take_set {w:List Nat} {i d:Nat} (h:i<w.length):nval ((w.set i d).take (i+1))=nval (w.take i)+4294967296^i*d:=by
  rw [nval_take_succ,List.take_set_of_le (Nat.le_refl _)]
  congr 2
  rw [List.getD_eq_getElem?_getD,List.getElem?_set_self h];rfl
theorem drop_set_succ {w w0:List Nat} {i d:Nat} (h:w.drop i=w0.drop i):(w.set i d).drop (i+1)=w0.drop (i+1):=by
  rw [List.drop_set_of_lt (by omega),←List.drop_drop,h,List.drop_drop]
theorem getD_drop_eq {w w0:List Nat} {i:Nat} (h:w.drop i=w0.drop i):w.getD i 0=w0.getD i 0:=by
  have:=congrArg (fun l=>l.getD 0 0) h
  simpa [List.getD_eq_getElem?_getD] using this
def DigR (w0 vs:List Nat) (q:Nat) (w:List Nat) (i c b:Nat):Prop:=i≤vs.length+1∧w.length=vs.length+1∧Lims w∧c<4294967296∧b≤1∧(i≤vs.length∨c=0)∧nval (w.take i)+q*nval (vs.take i)=nval (w0.take i)+4294967296^i*(c+b)∧w.drop i=w0.drop i
theorem digR_0 {w0 vs:List Nat} {q:Nat} (h:w0.length=vs.length+1) (hl:Lims w0):DigR w0 vs q w0 0 0 0:=⟨by omega,h,hl,by omega,by omega,.inl (by omega),by simp [nval],rfl⟩
theorem dig_p {q c v:Nat} (hq:q<4294967296) (hc:c<4294967296) (hv:v<4294967296):(c+q*v)/2^32<4294967296∧c+q*v<18446744073709551616:=by
  have:=mul_bd hq hv
  omega
theorem digR_s {w0 vs w:List Nat} {q i c b:Nat} (lv:Lims vs) (hq:q<4294967296) (hi:i<vs.length+1) (h:DigR w0 vs q w i c b) :
    DigR w0 vs q (w.set i (lessV b (w.getD i 0) ((c+q*vs.getD i 0)%4294967296)%4294967296)) (i+1) ((c+q*vs.getD i 0)/2^32) (lessV b (w.getD i 0) ((c+q*vs.getD i 0)%4294967296)/2^63):=by
  obtain ⟨h1,h2,h3,h4,h5,h6,h7,h8⟩:=h
  have hv:=getD_lt lv i
  have hx:=getD_lt h3 i
  have hxx:=getD_drop_eq h8
  obtain ⟨hp1,hp2⟩:=dig_p hq h4 hv
  have hlv:lessV b (w.getD i 0) ((c+q*vs.getD i 0)%4294967296)%4294967296+(b+(c+q*vs.getD i 0)%4294967296)=w.getD i 0+4294967296*(lessV b (w.getD i 0) ((c+q*vs.getD i 0)%4294967296)/2^63)∧lessV b (w.getD i 0) ((c+q*vs.getD i 0)%4294967296)/2^63≤1:=by
    have:(c+q*vs.getD i 0)%4294967296<4294967296:=Nat.mod_lt _ (by omega)
    generalize (c+q*vs.getD i 0)%4294967296=y at this ⊢
    unfold lessV;split <;> omega
  generalize lessV b (w.getD i 0) ((c+q*vs.getD i 0)%4294967296)=V at hlv ⊢
  obtain ⟨hV1,hV2⟩:=hlv
  refine ⟨by omega,by simpa using h2,h3.set (by omega),hp1,hV2,?_,?_,drop_set_succ h8⟩
  · by_cases hin:i<vs.length
    · left;omega
    · right
      have:vs.getD i 0=0:=getD_out (by omega)
      rw [this,Nat.mul_zero,Nat.add_zero]
      rcases h6 with h6 | h6 <;> omega
  · rw [nval_take_set (by omega),nval_take_succ,nval_take_succ,Nat.pow_succ,Nat.mul_assoc]
    rw [←hxx]
    generalize hs:c+q*vs.getD i 0=s at *
    have e1:q*(nval (vs.take i)+4294967296^i*vs.getD i 0)=q*nval (vs.take i)+4294967296^i*(q*vs.getD i 0):=by
      rw [Nat.mul_add];congr 1;rw [←Nat.mul_assoc,←Nat.mul_assoc,Nat.mul_comm q]
    rw [e1]
    have e2:V%4294967296+(q*vs.getD i 0)+(c+b)=w.getD i 0+4294967296*(s/2^32+V/2^63):=by
      have:=Nat.div_add_mod s 4294967296
      omega
    have e3:=congrArg (4294967296^i*·) e2
    simp only [Nat.mul_add] at e3 h7 ⊢
    omega
theorem dig_top {w0 vs:List Nat} (lw:Lims w0) (hl:w0.length=vs.length+1) (hn:1≤vs.length) (hv:vs.getD (vs.length-1) 0≠0) (hU:nval w0<nval vs*4294967296):nval w0/nval vs≤min ((w0.getD vs.length 0*2^32+w0.getD (vs.length-1) 0)/vs.getD (vs.length-1) 0) 4294967295:=by
  have hv1:=split_at (l:=vs) (Nat.le_refl _) hn
  rw [List.drop_length,nval,Nat.mul_zero,Nat.add_zero] at hv1
  have hV:4294967296^(vs.length-1)*vs.getD (vs.length-1) 0≤nval vs:=by omega
  have hpos:0<4294967296^(vs.length-1):=Nat.pow_pos (by omega)
  have hVp:0<nval vs:=by
    have:0<4294967296^(vs.length-1)*vs.getD (vs.length-1) 0:=Nat.mul_pos hpos (by omega)
    omega
  have h1:nval w0/nval vs<4294967296:=by
    rw [Nat.div_lt_iff_lt_mul hVp,Nat.mul_comm];exact hU
  have h2:nval w0<4294967296^(vs.length-1)*(w0.getD vs.length 0*2^32+w0.getD (vs.length-1) 0+1):=by
    have a1:=split_at (l:=w0) (i:=vs.length+1) (by omega) (by omega)
    have a2:=split_at (l:=w0.take vs.length) (i:=vs.length) (by simp;omega) hn
    rw [Nat.add_sub_cancel,List.drop_of_length_le (by omega),nval,Nat.mul_zero,Nat.add_zero] at a1
    rw [List.drop_of_length_le (by simp;omega),nval,Nat.mul_zero,Nat.add_zero,List.take_take,Nat.min_eq_left (by omega),getD_take (by omega)] at a2
    have a3:=nval_lt (lw.take (vs.length-1))
    rw [List.length_take,Nat.min_eq_left (by omega)] at a3
    have e:(4294967296:Nat)^vs.length=4294967296^(vs.length-1)*4294967296:=by
      conv=>lhs;rw [show vs.length=vs.length-1+1 from by omega,Nat.pow_succ]
    rw [e,Nat.mul_assoc] at a1
    rw [Nat.mul_add,Nat.mul_add,Nat.mul_one,Nat.mul_comm _ (2^32),show (2:Nat)^32=4294967296 from rfl]
    generalize 4294967296^(vs.length-1)*(4294967296*w0.getD vs.length 0)=u1 at a1 ⊢
    generalize 4294967296^(vs.length-1)*w0.getD (vs.length-1) 0=u2 at a2 ⊢
    omega
  refine Nat.le_min.2 ⟨?_,by omega⟩
  rw [Nat.le_div_iff_mul_le (by omega)]
  have h3:=Nat.div_mul_le_self (nval w0) (nval vs)
  have h4:nval w0/nval vs*(4294967296^(vs.length-1)*vs.getD (vs.length-1) 0)≤nval w0/nval vs*nval vs:=Nat.mul_le_mul_left _ hV
  have h5:4294967296^(vs.length-1)*(nval w0/nval vs*vs.getD (vs.length-1) 0)<4294967296^(vs.length-1)*(w0.getD vs.length 0*2^32+w0.getD (vs.length-1) 0+1):=by
    rw [Nat.mul_left_comm]
    omega
  have:=Nat.lt_of_mul_lt_mul_left h5
  omega
def DigS (w0 vs w:List Nat) (q b:Nat):Prop:=w.length=vs.length+1∧Lims w∧b≤1∧q<4294967296∧nval w+q*nval vs=nval w0+4294967296^(vs.length+1)*b∧nval w0/nval vs≤q
theorem digS_0 {w0 vs w:List Nat} {q i c b:Nat} (hi:i=vs.length+1) (hl:w0.length=vs.length+1) (hq:q<4294967296) (hq2:nval w0/nval vs≤q) (h:DigR w0 vs q w i c b):DigS w0 vs w q b:=by
  obtain ⟨h1,h2,h3,h4,h5,h6,h7,h8⟩:=h
  subst hi
  rw [List.take_of_length_le (by omega),List.take_of_length_le (by omega),List.take_of_length_le (by omega)] at h7
  have:c=0:=by rcases h6 with h6 | h6 <;> omega
  subst this
  rw [Nat.zero_add] at h7
  exact ⟨h2,h3,h5,hq,h7,hq2⟩
def DigA (w1 vs w:List Nat) (i c:Nat):Prop:=i≤vs.length+1∧w.length=vs.length+1∧Lims w∧c≤1∧nval (w.take i)+4294967296^i*c=nval (w1.take i)+nval (vs.take i)∧w.drop i=w1.drop i
theorem digA_0 {w0 vs w:List Nat} {q b:Nat} (h:DigS w0 vs w q b):DigA w vs w 0 0:=⟨by omega,h.1,h.2.1,by omega,by simp [nval],rfl⟩
theorem digA_s {w1 vs w:List Nat} {i c:Nat} (lv:Lims vs) (hi:i<vs.length+1) (h:DigA w1 vs w i c):DigA w1 vs (w.set i ((c+w.getD i 0+vs.getD i 0)%4294967296)) (i+1) ((c+w.getD i 0+vs.getD i 0)/2^32):=by
  obtain ⟨h1,h2,h3,h4,h5,h6⟩:=h
  have hv:=getD_lt lv i
  have hx:=getD_lt h3 i
  have hxx:=getD_drop_eq h6
  refine ⟨by omega,by simpa using h2,h3.set (by omega),by omega,?_,drop_set_succ h6⟩
  rw [nval_take_set (by omega),nval_take_succ,nval_take_succ,Nat.pow_succ,Nat.mul_assoc,←hxx]
  generalize hs:c+w.getD i 0+vs.getD i 0=s
  have e2:s%4294967296+4294967296*(s/2^32)=c+w.getD i 0+vs.getD i 0:=by
    have:=Nat.div_add_mod s 4294967296
    omega
  have e3:=congrArg (4294967296^i*·) e2
  simp only [Nat.mul_add] at e3
  omega
theorem dig_core {W W1 V U q P c:Nat} (h5:W+P*c=W1+V) (s5:W1+q*V=U+P) (hw:W1<P) (hc:c≤1):W+(q-1)*V=U+P*(1-c)∧U/V<q:=by
  have hqv:U<q*V:=by omega
  have hVp:0<V:=by
    rcases Nat.eq_zero_or_pos V with h | h
    · rw [h,Nat.mul_zero] at hqv;omega
    · exact h
  have hlt:U/V<q:=(Nat.div_lt_iff_lt_mul hVp).2 hqv
  refine ⟨?_,hlt⟩
  have hq0:=Nat.zero_lt_of_lt hlt
  clear hlt
  obtain ⟨k,rfl⟩:∃k,q=k+1:=⟨q-1,by omega⟩
  rw [Nat.succ_mul] at s5
  rw [Nat.add_sub_cancel]
  have:c=0∨c=1:=by omega
  rcases this with rfl | rfl
  · rw [Nat.mul_zero] at h5;rw [Nat.sub_zero,Nat.mul_one];omega
  · rw [Nat.mul_one] at h5;rw [Nat.sub_self,Nat.mul_zero];omega
theorem digA_end {w0 w1 vs w:List Nat} {q b i c:Nat} (hi:i=vs.length+1) (hb:0<b) (hs:DigS w0 vs w1 q b) (h:DigA w1 vs w i c):DigS w0 vs w (q-1) (b-c)∧1≤q:=by
  obtain ⟨h1,h2,h3,h4,h5,h6⟩:=h
  obtain ⟨s1,s2,s3,s4,s5,s6⟩:=hs
  subst hi
  rw [List.take_of_length_le (Nat.le_of_eq h2),List.take_of_length_le (Nat.le_of_eq s1),List.take_of_length_le (Nat.le_succ _)] at h5
  have hb1:b=1:=Nat.le_antisymm s3 hb
  subst hb1
  have hw:=nval_lt s2
  rw [s1] at hw
  rw [Nat.mul_one] at s5
  obtain ⟨k1,k2⟩:=dig_core h5 s5 hw h4
  exact ⟨⟨h2,h3,Nat.sub_le _ _,Nat.lt_of_le_of_lt (Nat.sub_le _ _) s4,k1,Nat.le_sub_one_of_lt k2⟩,Nat.one_le_of_lt k2⟩
theorem digS_end {w0 vs w:List Nat} {q b:Nat} (hb:b=0) (h:DigS w0 vs w q b) (hV:nval vs≠0):q=nval w0/nval vs∧w.length=vs.length+1∧Lims w∧nval w=nval w0%nval vs:=by
  obtain ⟨s1,s2,s3,s4,s5,s6⟩:=h
  subst hb
  rw [Nat.mul_zero,Nat.add_zero] at s5
  have h1:q≤nval w0/nval vs:=by
    rw [Nat.le_div_iff_mul_le (by omega)];omega
  have h2:q=nval w0/nval vs:=by omega
  refine ⟨h2,s1,s2,?_⟩
  have:=Nat.div_add_mod (nval w0) (nval vs)
  rw [←h2,Nat.mul_comm] at this
  omega
theorem top_ne {vs:List Nat} (hv:vs.getD (vs.length-1) 0≠0) (hn:1≤vs.length):nval vs≠0:=by
  have hv1:=split_at (l:=vs) (Nat.le_refl _) hn
  rw [List.drop_length,nval,Nat.mul_zero,Nat.add_zero] at hv1
  have:0<4294967296^(vs.length-1)*vs.getD (vs.length-1) 0:=Nat.mul_pos (Nat.pow_pos (by omega)) (by omega)
  omega
theorem min_lt32 {a:Nat}:min a 4294967295<4294967296:=by omega
theorem offs1 {o i:Nat}:o+i*1=(o+i)*1+0:=by omega
abbrev d4:=@offs1
theorem digS_pos {w0 vs w:List Nat} {q b:Nat} (hs:DigS w0 vs w q b) (hb:0<b):1≤q:=by
  obtain ⟨s1,s2,s3,s4,s5,s6⟩:=hs
  have hb1:b=1:=Nat.le_antisymm s3 hb
  subst hb1
  have hw:=nval_lt s2
  rw [s1] at hw
  rw [Nat.mul_one] at s5
  generalize 4294967296^(vs.length+1)=P at s5 hw
  rcases Nat.eq_zero_or_pos q with h | h
  · subst h;rw [Nat.zero_mul] at s5;omega
  · exact h
theorem quo32 {n:Nat} (h:n<32):IntKind.i64.wrap ((n:Int).tdiv 32)=0:=by
  have:(n:Int).tdiv 32=((n/32:Nat):Int):=rfl
  rw [this,Nat.div_eq_of_lt h];rfl
theorem rem32 {n:Nat} (h:n<32):(n:Int).tmod 32=(n:Int):=by
  have:(n:Int).tmod 32=((n%32:Nat):Int):=rfl
  rw [this,Nat.mod_eq_of_lt h]
theorem orN32 (j:Nat) {a b:Int} {s t:Nat} (ha:a=t) (hb:b=((s*2^j:Nat):Int)) (ht:t<2^j) (hs:s*2^j+t<4294967296):IntKind.u32.wrap ((BitVec.ofInt IntKind.u32.bits a ||| BitVec.ofInt IntKind.u32.bits b).toNat)=((s*2^j+t:Nat):Int):=by
  subst ha hb
  have h1:(BitVec.ofInt IntKind.u32.bits ((s*2^j:Nat):Int)).toNat=s*2^j:=by
    rw [BitVec.ofInt_natCast,BitVec.toNat_ofNat]
    exact Nat.mod_eq_of_lt (Nat.lt_of_le_of_lt (Nat.le_add_right _ t) hs)
  have h2:(BitVec.ofInt IntKind.u32.bits (t:Int)).toNat=t:=by
    rw [BitVec.ofInt_natCast,BitVec.toNat_ofNat]
    exact Nat.mod_eq_of_lt (Nat.lt_of_le_of_lt (Nat.le_add_left t _) hs)
  rw [BitVec.toNat_or,h1,h2,Nat.or_comm,Nat.mul_comm s,←Nat.two_pow_add_eq_or_of_lt ht,Nat.mul_comm,wr32 rfl,Nat.mod_eq_of_lt hs]
theorem pow32 {n:Nat} (h:n<32):1≤2^n∧2^n≤2147483648∧2^n*2^(32-n)=4294967296:=by
  refine ⟨Nat.two_pow_pos n,?_,?_⟩
  · exact Nat.pow_le_pow_right (n:=2) (by decide) (Nat.le_of_lt_succ h:n≤31)
  · rw [←Nat.pow_add,Nat.add_sub_cancel' (Nat.le_of_lt h)]
theorem shl_lo {x n:Nat} (h:n<32):x*2^n%4294967296=x%2^(32-n)*2^n:=by
  rw [←(pow32 h).2.2,Nat.mul_comm (2^n),Nat.mul_mod_mul_right]
theorem shl_hi {x n:Nat} (h:n<32) (hx:x<4294967296):x*2^n/2^32<2^n∧x*2^n<18446744073709551616:=by
  obtain ⟨h1,h2,h3⟩:=pow32 h
  constructor
  · rw [Nat.div_lt_iff_lt_mul (by decide),Nat.mul_comm]
    exact Nat.mul_lt_mul_of_pos_left hx h1
  · have:x*2^n≤4294967295*2147483648:=Nat.mul_le_mul (Nat.le_of_lt_succ hx) h2
    exact Nat.lt_of_le_of_lt this (by decide)
theorem shl_or {x n t:Nat} (h:n<32) (ht:t<2^n):x%2^(32-n)*2^n+t<4294967296:=by
  obtain ⟨h1,h2,h3⟩:=pow32 h
  have h4:x%2^(32-n)+1≤2^(32-n):=Nat.mod_lt _ (Nat.two_pow_pos _)
  have h5:=Nat.mul_le_mul_right (2^n) h4
  rw [Nat.succ_mul,Nat.mul_comm (2^(32-n)),h3] at h5
  omega
def ShlR (l row:List Nat) (n i:Nat):Prop:=i≤l.length∧row.length=l.length+1∧Lims row∧row.getD i 0<2^n∧nval (row.take (i+1))=nval (l.take i)*2^n
theorem shlR_0 (l:List Nat) (n:Nat):ShlR l (List.replicate (l.length+1) 0) n 0:=by
  refine ⟨by omega,by simp,fun x hx=>?_,?_,?_⟩
  · have:=(List.mem_replicate.1 hx).2;omega
  · rw [List.getD_eq_getElem?_getD,List.getElem?_replicate]
    have:=Nat.two_pow_pos n
    split <;> simpa using this
  · rw [List.take_replicate,nval_replicate0];simp [nval]
theorem shlR_s {l row:List Nat} {n i:Nat} (lL:Lims l) (hn:n<32) (hi:i<l.length) (h:ShlR l row n i) :
    ShlR l ((row.set i (l.getD i 0%2^(32-n)*2^n+row.getD i 0)).set (i+1) (l.getD i 0*2^n/2^32)) n (i+1):=by
  obtain ⟨h1,h2,h3,h4,h5⟩:=h
  have hx:=getD_lt lL i
  obtain ⟨k1,k2⟩:=shl_hi hn hx
  have k3:=shl_or (x:=l.getD i 0) hn h4
  have k4:l.getD i 0*2^n/2^32<4294967296:=Nat.lt_of_lt_of_le k1 (Nat.le_trans (pow32 hn).2.1 (by decide))
  refine ⟨by omega,by simpa using h2,(h3.set k3).set k4,?_,?_⟩
  · rw [List.getD_eq_getElem?_getD,List.getElem?_set_self (by simp;omega)];exact k1
  · rw [nval_take_set (by simp;omega),nval_take_set (by omega),nval_take_succ,Nat.add_mul,←h5,nval_take_succ,←shl_lo hn,Nat.pow_succ]
    rw [Nat.mul_assoc _ (l.getD i 0),Nat.mul_assoc (4294967296^i) 4294967296]
    generalize l.getD i 0*2^n=s
    have e2:s%4294967296+4294967296*(s/2^32)=s:=by
      have:=Nat.div_add_mod s 4294967296
      omega
    have e3:=congrArg (4294967296^i*·) e2
    simp only [Nat.mul_add] at e3 ⊢
    omega
theorem shlR_end {l row:List Nat} {n i:Nat} (hi:i=l.length) (h:ShlR l row n i):nval row=nval l*2^n:=by
  obtain ⟨h1,h2,h3,h4,h5⟩:=h
  subst hi
  rwa [List.take_length,List.take_of_length_le (Nat.le_of_eq h2)] at h5
def ShrR (l r:List Nat) (n:Nat):Prop:=r.length≤l.length∧Lims r∧nval r=(nval l/2^n)%4294967296^r.length
theorem shrR_0 (l:List Nat) (n:Nat):ShrR l [] n:=⟨by simp,fun x h=>(by cases h),by simp [nval,Nat.mod_one]⟩
theorem limb_at (l:List Nat) (hl:Lims l) (i:Nat):l.getD i 0=nval l/4294967296^i%4294967296:=by
  have h1:=nval_split l i
  rw [nval_drop] at h1
  have h2:=nval_lt' hl i
  have h3:=getD_lt hl i
  have hp:0<4294967296^i:=Nat.pow_pos (by decide)
  rw [h1,Nat.add_mul_div_left _ _ hp,Nat.div_eq_of_lt h2,Nat.zero_add,Nat.add_mul_mod_self_left,Nat.mod_eq_of_lt h3]
theorem two_limbs (l:List Nat) (hl:Lims l) (i:Nat):l.getD (i+1) 0*2^32+l.getD i 0=nval l/4294967296^i%18446744073709551616:=by
  rw [limb_at l hl i,limb_at l hl (i+1),Nat.pow_succ,←Nat.div_div_eq_div_mul]
  generalize nval l/4294967296^i=z
  omega
theorem shr_dig {z n:Nat} (hn:n<32):z%18446744073709551616/2^n%4294967296=z/2^n%4294967296:=by
  obtain ⟨h1,h2,h3⟩:=pow32 hn
  have e:18446744073709551616=2^n*(2^(32-n)*4294967296):=by
    rw [←Nat.mul_assoc,h3]
  rw [e,Nat.mod_mul_right_div_self,Nat.mul_comm (2^(32-n)),Nat.mod_mul_right_mod]
theorem shrR_s {l r:List Nat} {n:Nat} (lL:Lims l) (hn:n<32) (hi:r.length<l.length) (h:ShrR l r n) :
    ShrR l (r++[(l.getD (r.length+1) 0*2^32+l.getD r.length 0)/2^n%4294967296]) n:=by
  obtain ⟨h1,h2,h3⟩:=h
  refine ⟨by simp;omega,h2.concat (Nat.mod_lt _ (by decide)),?_⟩
  rw [nval_concat,two_limbs l lL,shr_dig hn,h3,List.length_append,List.length_singleton,Nat.div_div_eq_div_mul,Nat.mul_comm (4294967296^r.length) (2^n),←Nat.div_div_eq_div_mul,Nat.pow_succ,Nat.mod_mul]
theorem shrR_end {l r:List Nat} {n:Nat} (lL:Lims l) (hr:r.length=l.length) (h:ShrR l r n):nval r=nval l/2^n:=by
  obtain ⟨h1,h2,h3⟩:=h
  rw [h3,hr,Nat.mod_eq_of_lt]
  exact Nat.lt_of_le_of_lt (Nat.div_le_self _ _) (nval_lt lL)
theorem orN' (j:Nat) {a b:Int} {s t:Nat} (ha:a=t) (hb:b=((s*2^j:Nat):Int)) (ht:t<2^j) (hs:s*2^j+t<18446744073709551616):IntKind.u64.wrap ((BitVec.ofInt IntKind.u64.bits a ||| BitVec.ofInt IntKind.u64.bits b).toNat)=((s*2^j+t:Nat):Int):=by
  rw [BitVec.or_comm]
  exact orN j hb ha ht hs
end Fw
namespace Fw
open Go Go.Proofs
theorem c_trimO (v:Value) (l:List Nat):Con Tryz.prog 191 [VP.ex v] [OB.row v 93 kLimb l] (fun p Lo=>∃(u:Value),p=VP.ex u∧Lo=[OB.row u 93 kLimb (limbs (nval l))]∧True):=by
 refine aK Tryz.func191 E E fun m w=>aa<|ST.rowfact 0 E fun hB hL=>ah<|Wa E<|Wn<|aa<|aw<|tr 0 E (y:=(l.take l.length)) (by rw [List.take_length])<|bX (fun (i:Nat) (u:Value)=>i≤l.length∧nval (l.take i)=nval l) (fun (i:Nat) (u:Value)=>[(0,VP.ex u)]) (fun (i:Nat) (u:Value)=>[OB.row u 93 kLimb (l.take i)]) (fun (i:Nat) (u:Value)=>i) l.length v ⟨Nat.le_refl _,by rw [List.take_length]⟩ (Z E ai) (au _) ?_
 intro i u ⟨hi,hr⟩
 have hlen:(l.take i).length=i:=by simp;omega
 refine aa<|Cr<|Wm E<|Ws (cZ E (ac 0 E) U27)<|Ws (cq E E)<|Wm E ?_
 refine bV 6 E (fun h_t6=>?_)<|fun h_t6=>?_
 ·
  have h_t6':0<i:=by omega
  refine Wg E E (bj E)<|Wg E E (bj E)<|Wg E E (cZ E (ac 0 E) U27)<|Wg E E (bq E E (c:=(((l.take i).length:Int)-1)) (ay (by omega)))<|Wg E E (aY (k:=kLimb) (xs:=(l.take i)) (n:=(((l.take i).length:Int)-1)) (i-1) E E (ac 0 E) U27 aP (by omega) (by omega))<|Wg E E (aV (bd (i-1) E (ac 0 E) Li E (y:=((l.take i).getD (i-1) 0)) (gd 0 (by omega)) aP E) (bQ _))<|Wg E E (bR E E)<|Ws (ch E E)<|Wn ?_
  refine aB E (fun h_t14=>?_)<|fun h_t14=>?_
  ·
   refine Ck<|aw<|ah<|Wm E<|Wm E<|Ws (cZ E (ac 0 E) U27)<|Ws (bq E E (c:=(((l.take i).length:Int)-1)) (ay (by omega)))<|WP.slR 0 (i-1) .n E E E U27 aP (by omega) (by omega) fun v1=>Wa E<|aj<|dq<|tr 0 E (y:=(l.take (i-1))) (take_take1 hi) ?_
   exact bP (i-1) v1 (by omega) ⟨by omega,(fh hi h_t6' h_t14).trans hr⟩ (Z E ai)<|au _
  ·
   refine Ex<|Cr<|Wm E<|Wa E<|Wn<|am<|tr 0 E (y:=(limbs (nval l))) (trim_stop hL hi h_t6' h_t14 hr) ?_
   exact ct (.inl E) E (ar E ak) (au _) ⟨u,E,E,trivial⟩
 ·
  refine cx (b:=false) E E<|cx (b:=false) E E<|cx (b:=false) E E<|cx (b:=false) E E<|cx (b:=false) E E<|cx (b:=false) E E<|cx (b:=false) E E<|Ws (cb E E)<|Wn<|df E<|Ex<|Cr<|Wm E<|Wa E<|Wn<|am<|tr 0 E (y:=(limbs (nval l))) (trim_stop0 hr (by omega)) ?_
  exact ct (.inl E) E (ar E ak) (au _) ⟨u,E,E,trivial⟩
theorem c_nat_digit (v:Value) (l vs:List Nat) (o:Nat) (ho:o+(vs.length+1)≤l.length) (hn:1≤vs.length) (hv:vs.getD (vs.length-1) 0≠0) (hU:nval ((l.drop o).take (vs.length+1))<nval vs*4294967296):Con Tryz.prog 274 [VP.win v o (vs.length+1),kN.is vs] [OB.row v 93 kLimb l] (fun p Lo=>∃(w:List Nat),p=(kInt .u32).is ((nval ((l.drop o).take (vs.length+1))/nval vs:Nat):Int)∧Lo=[OB.row v 93 kLimb (l.take o++w++l.drop (o+(vs.length+1)))]∧w.length=vs.length+1∧Lims w∧nval w=nval ((l.drop o).take (vs.length+1))%nval vs):=by
 refine aK Tryz.func274 E E fun m w=>ST.rowfact 0 E fun hB hL=>aR (i:=1) E ce fun lv=>aR (i:=1) E bu fun hBv=>?_
 obtain ⟨w0,hw0⟩:∃w0,w0=(l.drop o).take (vs.length+1):=⟨_,rfl⟩
 have lw0:Lims w0:=by rw [hw0];exact (hL.drop _).take _
 have hw0l:w0.length=vs.length+1:=by rw [hw0];simp;omega
 have hU0:nval w0<nval vs*4294967296:=by rw [hw0];exact hU
 have hol:o≤l.length:=by omega
 refine tr 0 E (y:=(l.take o++w0++l.drop (o+(vs.length+1)))) (by rw [hw0];exact win_self) ?_
 have hx1:=getD_lt lw0 vs.length
 have hx2:=getD_lt lw0 (vs.length-1)
 have hx3:=getD_lt lv (vs.length-1)
 have hrl:=win_len (o:=o) ho hw0l
 refine Cr<|Wa E<|Wr<|Wm E<|Ws (aA E U27)<|Wa E<|Wn<|aa ?_
 refine ba (Γ:=[.fr (VP.win v o (vs.length+1)),.fr (kN6.is (vs.length:Int)),.fr (VP.pel v (o+vs.length*1)),.fr ((kInt .u32).is ((w0.getD vs.length 0):Int)),.fr ((kInt .u64).is ((w0.getD vs.length 0):Int)),.fr ((kInt .u64).is ((w0.getD vs.length 0*2^32:Nat):Int)),.fr (VP.win v o (vs.length+1)),.fr (kN6.is (vs.length:Int)),.fr (kN6.is ((vs.length:Int)-1)),.fr (VP.pel v (o+(vs.length-1)*1)),.fr ((kInt .u32).is ((w0.getD (vs.length-1) 0):Int)),.fr ((kInt .u64).is ((w0.getD (vs.length-1) 0):Int)),.fr ((kInt .u64).is ((w0.getD vs.length 0*2^32+w0.getD (vs.length-1) 0:Nat):Int))]) (om E E (om E E (J E (fun N=>d7 (sz:=1) vs.length E E U27 aP E (by omega)) (J E (fun N=>aV (bd (k:=kLimb) (xs:=(l.take o++w0++l.drop (o+(vs.length+1)))) (o+vs.length) E (mN N 0 E) Li (ho:=d4) (y:=(w0.getD vs.length 0)) (eX hol (by omega)) aP E) (bQ _)) (J E (fun N=>bb E U93 U178 (c:=((w0.getD vs.length 0):Int)) (bA (by omega))) (J E (fun N=>O.shl E E (by omega) (c:=((w0.getD vs.length 0*2^32:Nat):Int)) (shlN 32 E E (by decide) (by omega))) (om E E (om E E (J E (fun N=>bq E E (c:=((vs.length:Int)-1)) (ay (by omega))) (J E (fun N=>d7 (sz:=1) (vs.length-1) E E U27 aP (by omega) (by omega)) (J E (fun N=>aV (bd (k:=kLimb) (xs:=(l.take o++w0++l.drop (o+(vs.length+1)))) (o+(vs.length-1)) E (mN N 0 E) Li (ho:=d4) (y:=(w0.getD (vs.length-1) 0)) (eX hol (by omega)) aP E) (bQ _)) (J E (fun N=>bb E U93 U178 (c:=((w0.getD (vs.length-1) 0):Int)) (bA (by omega))) (J E (fun N=>O.or E E (c:=((w0.getD vs.length 0*2^32+w0.getD (vs.length-1) 0:Nat):Int)) (orN 32 E E hx2 (by omega))) oz)))))))))))))<|fun σ=>?_
 refine Wa E<|Wr<|Wm E<|Wm E<|Wm E<|Ws (bq E E (c:=((vs.length:Int)-1)) (ay (by omega)))<|Ws (aT (vs.length-1) E E U27 aP (by omega) (v:=(vs.getD (vs.length-1) 0)) (gd 0 (by omega)))<|Ws (aV (aO E aP) (bQ _))<|Ws (bb E U93 U178 (c:=((vs.getD (vs.length-1) 0):Int)) (bA (by omega)))<|Ws (dM E E (by omega) (c:=(((w0.getD vs.length 0*2^32+w0.getD (vs.length-1) 0)/vs.getD (vs.length-1) 0:Nat):Int)) (quoN (vs.getD (vs.length-1) 0) E E (by omega)))<|Ws (O.mn E E)<|Wa E<|Wn<|aa ?_
 obtain ⟨q,hqd⟩:∃q,q=min ((w0.getD vs.length 0*2^32+w0.getD (vs.length-1) 0)/vs.getD (vs.length-1) 0) 4294967295:=⟨_,rfl⟩
 have hq:q<4294967296:=by rw [hqd];exact min_lt32
 have hq2:nval w0/nval vs≤q:=by rw [hqd];exact dig_top lw0 hw0l hn hv hU0
 refine tl 7 E (y:=(q:Int)) (by rw [hqd];exact minN)<|ah<|Wa E<|Wa E<|Wn<|aa<|Cr<|Wm E<|Ws (aI E E (c:=((vs.length:Int)+1)) (ay (by omega)))<|Wm E<|Wn<|aw<|CW.loop4 (fun (w:List Nat) (i:Nat) (c:Nat) (b:Nat)=>DigR w0 vs q w i c b) (fun (w:List Nat) (i:Nat) (c:Nat) (b:Nat)=>[(0,VP.win v o (vs.length+1)),(1,kN.is vs),(5,kN6.is (vs.length:Int)),(7,(kInt .u64).is (q:Int)),(8,(kInt .u64).is (c:Int)),(9,(kInt .u64).is (b:Int)),(40,kN6.is ((vs.length:Int)+1)),(41,kN6.is (i:Int))]) (fun (w:List Nat) (i:Nat) (c:Nat) (b:Nat)=>[OB.row v 93 kLimb (l.take o++w++l.drop (o+(vs.length+1)))]) (fun (w:List Nat) (i:Nat) (c:Nat) (b:Nat)=>vs.length+1-i) w0 0 0 0 (digR_0 hw0l lw0) (af E E E E (ao E (ag (y:=(0:Int)) (by omega)) (ao E (ag (y:=(0:Int)) (by omega)) (Z E (ao E (ag (y:=(0:Int)) (by omega)) ai))))) (au _) ?_
 intro w i c b hD
 have hwl:=hD.2.1
 have hx:=getD_lt hD.2.2.1 i
 have hc:=hD.2.2.2.1
 have hb:=hD.2.2.2.2.1
 have hy:=getD_lt lv i
 have hqy:=mul_bd hq hy
 have hpm:(c+q*vs.getD i 0)%4294967296<4294967296:=Nat.mod_lt _ (by omega)
 have hrl:=win_len (o:=o) ho hwl
 have hi:=hD.1
 refine Cr<|Ws (aS E E)<|Wn<|aa ?_
 refine aB E (fun h_t42=>?_)<|fun h_t42=>?_
 ·
  refine Ck<|aa<|aw<|Cr<|Wm E<|Wa E<|Wr<|Wm E<|Wa E<|Wn<|aa<|Cr<|Wm E<|Wm E<|Ws (aS E E)<|Wn ?_
  refine aB E (fun h_t47=>?_)<|fun h_t47=>?_
  ·
   refine ah<|Wm E<|Wm E<|Wm E<|Wm E<|Ws (aT i E E U27 aP E (v:=(vs.getD i 0)) (gd 0 (by omega)))<|Ws (aV (aO E aP) (bQ _))<|Ws (bb E U93 U178 (c:=((vs.getD i 0):Int)) (bA (by omega)))<|Ws (dn E E (c:=((q*vs.getD i 0:Nat):Int)) (bA ⟨by norm_cast,by omega,by omega⟩))<|Ws (aI E E (c:=((c+q*vs.getD i 0:Nat):Int)) (bA (by omega)))<|Wa E<|Wr<|Wm E<|Ws (cP E E (by omega) (c:=(((c+q*vs.getD i 0)/2^32:Nat):Int)) (cQ 32 E E (by decide)))<|Wa E<|Wr<|Wm E<|Wm E ?_
   refine Ws (d7 (sz:=1) i E E U27 aP E (by omega))<|Ws (aV (bd (k:=kLimb) (xs:=(l.take o++w++l.drop (o+(vs.length+1)))) (o+i) E (ac 0 E) Li (ho:=d4) (y:=(w.getD i 0)) (eX hol (by omega)) aP E) (bQ _))<|Ws (bb E U93 U178 (c:=((w.getD i 0):Int)) (bA (by omega)))<|Wm E<|Ws (bb E U178 U93 (c:=(((c+q*vs.getD i 0)%4294967296:Nat):Int)) (dg E))<|Ws (bb E U93 U178 (c:=(((c+q*vs.getD i 0)%4294967296:Nat):Int)) (bA (by omega)))<|Ws (bq E E (c:=((lessV 0 (w.getD i 0) ((c+q*vs.getD i 0)%4294967296):Nat):Int)) (dsub1 hx hpm))<|Wm E<|Ws (bq E E (c:=((lessV b (w.getD i 0) ((c+q*vs.getD i 0)%4294967296):Nat):Int)) (dsub2 hb hx hpm))<|Wa E<|Wr<|Wm E<|Wm E<|Wm E<|Ws (bb E U178 U93 (c:=((lessV b (w.getD i 0) ((c+q*vs.getD i 0)%4294967296)%4294967296:Nat):Int)) (dg E))<|Ws (d7 (sz:=1) i E E U27 aP E (by omega))<|aG .n (cd 0 (o+i) E E Li d4 (y0:=((l.take o++w++l.drop (o+(vs.length+1))).getD (o+i) 0)) (gd 0 (by omega)) aP E (bF (x:=(lessV b (w.getD i 0) ((c+q*vs.getD i 0)%4294967296)%4294967296:Nat)) (by omega)))<|Wn<|ah<|Wm E ?_
   refine Ws (cP E E (by omega) (c:=((lessV b (w.getD i 0) ((c+q*vs.getD i 0)%4294967296)/2^63:Nat):Int)) (cQ 63 E E (by decide)))<|Wa E<|aj<|Qb<|ah<|Ws (aI E E (c:=((i:Int)+1)) (ay (by omega)))<|Wm E<|aj<|tr 0 E (y:=(l.take o++(w.set i (lessV b (w.getD i 0) ((c+q*vs.getD i 0)%4294967296)%4294967296))++l.drop (o+(vs.length+1)))) (win_set hol (by omega)) ?_
   exact eU (w.set i (lessV b (w.getD i 0) ((c+q*vs.getD i 0)%4294967296)%4294967296)) (i+1) ((c+q*vs.getD i 0)/2^32) (lessV b (w.getD i 0) ((c+q*vs.getD i 0)%4294967296)/2^63) (by omega) (digR_s lv hq (by omega) hD) (af E E E E (ao E (ag (y:=((((c+q*vs.getD i 0)/2^32):Nat):Int)) (by omega)) (ao E (ag (y:=(((lessV b (w.getD i 0) ((c+q*vs.getD i 0)%4294967296)/2^63):Nat):Int)) (by omega)) (Z E (ao E (ag (y:=(((i+1):Nat):Int)) (by omega)) ai)))))<|au _
  ·
   have hy0:=getD_out (l:=vs) (i:=i) (by omega)
   refine tl 11 E (y:=((c+q*vs.getD i 0:Nat):Int)) (by rw [hy0];rfl)<|Ck<|Cr<|Wm E<|Ws (cP E E (by omega) (c:=(((c+q*vs.getD i 0)/2^32:Nat):Int)) (cQ 32 E E (by decide)))<|Wa E<|Wr<|Wm E<|Wm E<|Ws (d7 (sz:=1) i E E U27 aP E (by omega))<|Ws (aV (bd (k:=kLimb) (xs:=(l.take o++w++l.drop (o+(vs.length+1)))) (o+i) E (ac 0 E) Li (ho:=d4) (y:=(w.getD i 0)) (eX hol (by omega)) aP E) (bQ _))<|Ws (bb E U93 U178 (c:=((w.getD i 0):Int)) (bA (by omega)))<|Wm E<|Ws (bb E U178 U93 (c:=(((c+q*vs.getD i 0)%4294967296:Nat):Int)) (dg E))<|Ws (bb E U93 U178 (c:=(((c+q*vs.getD i 0)%4294967296:Nat):Int)) (bA (by omega)))<|Ws (bq E E (c:=((lessV 0 (w.getD i 0) ((c+q*vs.getD i 0)%4294967296):Nat):Int)) (dsub1 hx hpm))<|Wm E<|Ws (bq E E (c:=((lessV b (w.getD i 0) ((c+q*vs.getD i 0)%4294967296):Nat):Int)) (dsub2 hb hx hpm))<|Wa E ?_
   refine Wr<|Wm E<|Wm E<|Wm E<|Ws (bb E U178 U93 (c:=((lessV b (w.getD i 0) ((c+q*vs.getD i 0)%4294967296)%4294967296:Nat):Int)) (dg E))<|Ws (d7 (sz:=1) i E E U27 aP E (by omega))<|aG .n (cd 0 (o+i) E E Li d4 (y0:=((l.take o++w++l.drop (o+(vs.length+1))).getD (o+i) 0)) (gd 0 (by omega)) aP E (bF (x:=(lessV b (w.getD i 0) ((c+q*vs.getD i 0)%4294967296)%4294967296:Nat)) (by omega)))<|Wn<|ah<|Wm E<|Ws (cP E E (by omega) (c:=((lessV b (w.getD i 0) ((c+q*vs.getD i 0)%4294967296)/2^63:Nat):Int)) (cQ 63 E E (by decide)))<|Wa E<|aj<|Qb<|ah<|Ws (aI E E (c:=((i:Int)+1)) (ay (by omega)))<|Wm E<|aj<|tr 0 E (y:=(l.take o++(w.set i (lessV b (w.getD i 0) ((c+q*vs.getD i 0)%4294967296)%4294967296))++l.drop (o+(vs.length+1)))) (win_set hol (by omega)) ?_
   exact eU (w.set i (lessV b (w.getD i 0) ((c+q*vs.getD i 0)%4294967296)%4294967296)) (i+1) ((c+q*vs.getD i 0)/2^32) (lessV b (w.getD i 0) ((c+q*vs.getD i 0)%4294967296)/2^63) (by omega) (digR_s lv hq (by omega) hD) (af E E E E (ao E (ag (y:=((((c+q*vs.getD i 0)/2^32):Nat):Int)) (by omega)) (ao E (ag (y:=(((lessV b (w.getD i 0) ((c+q*vs.getD i 0)%4294967296)/2^63):Nat):Int)) (by omega)) (Z E (ao E (ag (y:=(((i+1):Nat):Int)) (by omega)) ai)))))<|au _
 ·
  refine Ex<|aa<|aw<|da (fun (w:List Nat) (q:Nat) (b:Nat)=>DigS w0 vs w q b) (fun (w:List Nat) (q:Nat) (b:Nat)=>[(0,VP.win v o (vs.length+1)),(1,kN.is vs),(5,kN6.is (vs.length:Int)),(7,(kInt .u64).is (q:Int)),(9,(kInt .u64).is (b:Int))]) (fun (w:List Nat) (q:Nat) (b:Nat)=>[OB.row v 93 kLimb (l.take o++w++l.drop (o+(vs.length+1)))]) (fun (w:List Nat) (q:Nat) (b:Nat)=>q) w q b (digS_0 (by omega) hw0l hq hq2 hD) (af E E E E (Z E ai)) (au _) ?_
  intro w q b hS
  have hq:=hS.2.2.2.1
  have hb:=hS.2.2.1
  refine aa<|Cr<|Wm E<|Ws (cq E E)<|Wn ?_
  refine aB E (fun h_t79=>?_)<|fun h_t79=>?_
  ·
   refine Ck<|aw<|aa ?_
   have hq1:=digS_pos hS (by omega)
   refine ah<|Wm E<|Ws (bq E E (c:=((q-1:Nat):Int)) (bA (by omega)))<|Wa E<|Wn<|aa ?_
   obtain ⟨w1,hw1⟩:∃w1,w1=w:=⟨_,rfl⟩
   refine tr 0 E (y:=(l.take o++w1++l.drop (o+(vs.length+1)))) (by rw [hw1]) ?_
   rw [←hw1] at hS
   refine ah<|Wa E<|Wn<|aa<|Cr<|Wm E<|Ws (aI E E (c:=((vs.length:Int)+1)) (ay (by omega)))<|Wm E<|Wn<|aw<|da (fun (w:List Nat) (i:Nat) (c:Nat)=>DigA w1 vs w i c) (fun (w:List Nat) (i:Nat) (c:Nat)=>[(0,VP.win v o (vs.length+1)),(1,kN.is vs),(5,kN6.is (vs.length:Int)),(7,(kInt .u64).is ((q-1:Nat):Int)),(9,(kInt .u64).is (b:Int)),(13,(kInt .u64).is (c:Int)),(83,kN6.is ((vs.length:Int)+1)),(84,kN6.is (i:Int))]) (fun (w:List Nat) (i:Nat) (c:Nat)=>[OB.row v 93 kLimb (l.take o++w++l.drop (o+(vs.length+1)))]) (fun (w:List Nat) (i:Nat) (c:Nat)=>vs.length+1-i) w1 0 0 (digA_0 hS) (af E E E E (Z E (ao E (ag (y:=(0:Int)) (by omega)) (Z E (ao E (ag (y:=(0:Int)) (by omega)) ai))))) (au _) ?_
   intro w i c hA
   have hwl:=hA.2.1
   have hx:=getD_lt hA.2.2.1 i
   have hc:=hA.2.2.2.1
   have hy:=getD_lt lv i
   have hrl:=win_len (o:=o) ho hwl
   have hi:=hA.1
   refine Cr<|Ws (aS E E)<|Wn<|aa ?_
   refine aB E (fun h_t85=>?_)<|fun h_t85=>?_
   ·
    refine Ck<|aa<|aw<|Cr<|Wm E<|Wa E<|Wr<|Wm E<|Wm E<|Wm E<|Ws (d7 (sz:=1) i E E U27 aP E (by omega))<|Ws (aV (bd (k:=kLimb) (xs:=(l.take o++w++l.drop (o+(vs.length+1)))) (o+i) E (ac 0 E) Li (ho:=d4) (y:=(w.getD i 0)) (eX hol (by omega)) aP E) (bQ _))<|Ws (bb E U93 U178 (c:=((w.getD i 0):Int)) (bA (by omega)))<|Ws (aI E E (c:=((c:Int)+((w.getD i 0):Int))) (bA (by omega)))<|Wa E<|Wn<|aa<|aa ?_
    refine ah<|Wm E<|Wm E<|Ws (aS E E)<|Wn ?_
    refine aB E (fun h_t96=>?_)<|fun h_t96=>?_
    ·
     refine ah<|Wm E<|Wm E<|Wm E<|Ws (aT i E E U27 aP E (v:=(vs.getD i 0)) (gd 0 (by omega)))<|Ws (aV (aO E aP) (bQ _))<|Ws (bb E U93 U178 (c:=((vs.getD i 0):Int)) (bA (by omega)))<|Ws (aI E E (c:=(((c:Int)+((w.getD i 0):Int))+((vs.getD i 0):Int))) (bA (by omega)))<|Wa E<|Wr<|Wm E<|Wm E<|Wm E<|Ws (bb E U178 U93 (c:=(((c+w.getD i 0+vs.getD i 0)%4294967296:Nat):Int)) (dg (by omega)))<|Ws (d7 (sz:=1) i E E U27 aP E (by omega))<|aG .n (cd 0 (o+i) E E Li d4 (y0:=((l.take o++w++l.drop (o+(vs.length+1))).getD (o+i) 0)) (gd 0 (by omega)) aP E (bF (x:=((c+w.getD i 0+vs.getD i 0)%4294967296:Nat)) (by omega)))<|Wn<|ah<|Wm E<|Ws (cP E E (by omega) (c:=(((c+w.getD i 0+vs.getD i 0)/2^32:Nat):Int)) (cQ 32 (by omega) E (by decide))) ?_
     refine Wa E<|aj<|Qb<|ah<|Ws (aI E E (c:=((i:Int)+1)) (ay (by omega)))<|Wm E<|aj<|tr 0 E (y:=(l.take o++(w.set i ((c+w.getD i 0+vs.getD i 0)%4294967296))++l.drop (o+(vs.length+1)))) (win_set hol (by omega)) ?_
     exact cM (w.set i ((c+w.getD i 0+vs.getD i 0)%4294967296)) (i+1) ((c+w.getD i 0+vs.getD i 0)/2^32) (by omega) (digA_s lv (by omega) hA) (af E E E E (Z E (ao E (ag (y:=((((c+w.getD i 0+vs.getD i 0)/2^32):Nat):Int)) (by omega)) (Z E (ao E (ag (y:=(((i+1):Nat):Int)) (by omega)) ai)))))<|au _
    ·
     have hy0:=getD_out (l:=vs) (i:=i) (by omega)
     refine Ck<|Cr<|Wm E<|Wm E<|Wm E<|Ws (bb E U178 U93 (c:=(((c+w.getD i 0+vs.getD i 0)%4294967296:Nat):Int)) (dg (by omega)))<|Ws (d7 (sz:=1) i E E U27 aP E (by omega))<|aG .n (cd 0 (o+i) E E Li d4 (y0:=((l.take o++w++l.drop (o+(vs.length+1))).getD (o+i) 0)) (gd 0 (by omega)) aP E (bF (x:=((c+w.getD i 0+vs.getD i 0)%4294967296:Nat)) (by omega)))<|Wn<|ah<|Wm E<|Ws (cP E E (by omega) (c:=(((c+w.getD i 0+vs.getD i 0)/2^32:Nat):Int)) (cQ 32 (by omega) E (by decide)))<|Wa E<|aj<|Qb<|ah<|Ws (aI E E (c:=((i:Int)+1)) (ay (by omega)))<|Wm E<|aj<|tr 0 E (y:=(l.take o++(w.set i ((c+w.getD i 0+vs.getD i 0)%4294967296))++l.drop (o+(vs.length+1)))) (win_set hol (by omega)) ?_
     exact cM (w.set i ((c+w.getD i 0+vs.getD i 0)%4294967296)) (i+1) ((c+w.getD i 0+vs.getD i 0)/2^32) (by omega) (digA_s lv (by omega) hA) (af E E E E (Z E (ao E (ag (y:=((((c+w.getD i 0+vs.getD i 0)/2^32):Nat):Int)) (by omega)) (Z E (ao E (ag (y:=(((i+1):Nat):Int)) (by omega)) ai)))))<|au _
   ·
    refine Ex<|ah<|Wm E<|Wm E<|Ws (bq E E (c:=((b-c:Nat):Int)) (bA (by omega)))<|Wa E<|aj<|dq ?_
    exact cM w (q-1) (b-c) (by have:=(digA_end (by omega) (by omega) hS hA).2;omega) (digA_end (by omega) (by omega) hS hA).1 (Z E (Z E (Z E (ao E (ag (y:=(((q-1):Nat):Int)) (by omega)) (ao E (ag (y:=(((b-c):Nat):Int)) (by omega)) ai)))))<|au _
  ·
   refine Ex<|Cr<|Wm E<|Ws (bb E U178 U93 (c:=(q:Int)) (cN (by omega)))<|Wa E<|Wn<|am ?_
   have hend:=digS_end (by omega) hS (top_ne hv hn)
   refine tl 4 E (y:=((nval ((l.drop o).take (vs.length+1))/nval vs:Nat):Int)) (by rw [hend.1,hw0]) ?_
   exact ct (.inl E) E (ar E ak) (au _) ⟨w,E,E,(by rw [←hw0];exact hend.2)⟩
theorem c_nat_shl (l:List Nat) (n:Nat) (hn:n<32) (hB:l.length≤1099511627000):Con Tryz.prog 273 [kN.is l,kN6.is (n:Int)] [] (fun p Lo=>∃(u:Value),p=VP.ex u∧Lo=[OB.row u 93 kLimb (limbs (nval l*2^n))]∧True):=by
 refine aK Tryz.func273 E E fun m w=>aR (i:=0) E ce fun hL=>?_
 have hll:=limbs_len_le hL
 have lA:=limbs_lims (nval l)
 refine Cr<|Wa E<|Wr<|Wm E<|Ws (f1 cT E (cW l))<|Wa E<|Wn<|aa<|Cr<|Wm E<|Ws (aA E U27)<|Ws (bR E E)<|Wn ?_
 refine aB E (fun h_t14=>?_)<|fun h_t14=>?_
 ·
  refine Cr<|Wa E<|Wn<|am<|aQ<|ca 93 kLimb<|tr 0 E (y:=(limbs (nval l*2^n))) (by rw [limbs0 (n:=nval l) (by omega),Nat.zero_mul,limbs_zero]) ?_
  exact ct (.inl E) E (ar E ak) (au _) ⟨(.slice none 0 0),E,E,trivial⟩
 ·
  refine Ck<|Cr<|Wm E<|Ws (dM E E (by omega) (c:=0) (quo32 hn))<|Wm E<|Ws (d5 E E (by omega) (c:=(n:Int)) (rem32 hn))<|Ws (bb E U3 U180 (c:=(n:Int)) (bA (by omega)))<|Wa E<|Wa E<|Wr<|Wm E<|Ws (aA E U27)<|Wm E<|Ws (aI E E (c:=(((limbs (nval l)).length:Int)+0)) (ay (by omega)))<|Ws (aI E E (c:=((((limbs (nval l)).length:Int)+0)+1)) (ay (by omega)))<|bp ((limbs (nval l)).length+1) .n E E (by omega) (by omega) U27 bO dC fun v1=>Wa E<|Wn ?_
  refine aa<|Cr<|Wm E<|Ws (aA E U27)<|Wm E<|Wn<|aw<|bX (fun (row:List Nat) (i:Nat)=>ShlR (limbs (nval l)) row n i) (fun (row:List Nat) (i:Nat)=>[(0,kN.is (limbs (nval l))),(5,kN6.is 0),(6,(kInt .u64).is (n:Int)),(7,VP.ex v1),(27,kN6.is ((limbs (nval l)).length:Int)),(28,kN6.is (i:Int))]) (fun (row:List Nat) (i:Nat)=>[OB.row v1 93 kLimb row]) (fun (row:List Nat) (i:Nat)=>(limbs (nval l)).length-i) (List.replicate ((limbs (nval l)).length+1) 0) 0 (shlR_0 _ _) (af E E E E (Z E (ao E (ag (y:=(0:Int)) (by omega)) ai))) (au _) ?_
  intro row i hS
  have hrl:=hS.2.1
  have hi:=hS.1
  have hx:=getD_lt lA i
  have ht:=hS.2.2.2.1
  have k1:=shl_hi hn hx
  have k3:=shl_or (x:=(limbs (nval l)).getD i 0) hn ht
  have k4:=(pow32 hn).2.1
  refine Cr<|Ws (aS E E)<|Wn<|aa ?_
  refine aB E (fun h_t29=>?_)<|fun h_t29=>?_
  ·
   refine Ck<|aa<|aw<|Cr<|Wm E<|Wa E<|Wr<|Wm E<|Wm E<|Ws (aT i E E U27 aP E (v:=((limbs (nval l)).getD i 0)) (gd 0 (by omega)))<|Ws (aV (aO E aP) (bQ _))<|Ws (bb E U93 U178 (c:=(((limbs (nval l)).getD i 0):Int)) (bA (by omega)))<|Wm E<|Ws (O.shl E E (by omega) (c:=(((limbs (nval l)).getD i 0*2^n:Nat):Int)) (shlN n E E (by omega) k1.2))<|Wa E<|Wr ?_
   refine Wm E<|Wm E<|Wm E<|Ws (aI E E (c:=((i:Int)+0)) (ay (by omega)))<|Ws (aY (k:=kLimb) (xs:=row) (n:=((i:Int)+0)) i E E (ac 0 E) U27 aP (by omega) (by omega))<|Ws (aV (bd i E (ac 0 E) Li E (y:=(row.getD i 0)) (gd 0 (by omega)) aP E) (bQ _))<|Wm E<|Ws (bb E U178 U93 (c:=(((limbs (nval l)).getD i 0%2^(32-n)*2^n:Nat):Int)) (by rw [wr32 rfl,shl_lo hn]))<|Ws (O.or E E (c:=(((limbs (nval l)).getD i 0%2^(32-n)*2^n+row.getD i 0:Nat):Int)) (orN32 n E E ht k3))<|Ws (aY (k:=kLimb) (xs:=row) (n:=((i:Int)+0)) i E E (ac 0 E) U27 aP (by omega) (by omega))<|aG .n (cd 0 i E E Li E (y0:=(row.getD i 0)) (gd 0 (by omega)) aP E (bF (x:=((limbs (nval l)).getD i 0%2^(32-n)*2^n+row.getD i 0:Nat)) (by omega)))<|Wn<|ah<|Wm E<|Wm E<|Wm E<|Ws (aI E E (c:=((i:Int)+0)) (ay (by omega)))<|Ws (aI E E (c:=(((i:Int)+0)+1)) (ay (by omega)))<|Wm E<|Ws (cP E E (by omega) (c:=(((limbs (nval l)).getD i 0*2^n/2^32:Nat):Int)) (cQ 32 E E (by decide)))<|Ws (bb E U178 U93 (c:=(((limbs (nval l)).getD i 0*2^n/2^32:Nat):Int)) (cN ⟨E,by omega⟩))<|Ws (aY (k:=kLimb) (xs:=(row.set i ((limbs (nval l)).getD i 0%2^(32-n)*2^n+row.getD i 0:Nat))) (n:=(((i:Int)+0)+1)) (i+1) E E (ac 0 E) U27 aP (by omega) (by simp;omega))<|aG .n (cd 0 (i+1) E E Li E (y0:=((row.set i ((limbs (nval l)).getD i 0%2^(32-n)*2^n+row.getD i 0:Nat)).getD (i+1) 0)) (gd 0 (by simp;omega)) aP E (bF (x:=((limbs (nval l)).getD i 0*2^n/2^32:Nat)) (by omega))) ?_
   refine aj<|Qb<|ah<|Ws (aI E E (c:=((i:Int)+1)) (ay (by omega)))<|Wm E<|aj ?_
   exact bP ((row.set i ((limbs (nval l)).getD i 0%2^(32-n)*2^n+row.getD i 0)).set (i+1) ((limbs (nval l)).getD i 0*2^n/2^32)) (i+1) (by omega) (shlR_s lA hn (by omega) hS) (af E E E E (Z E (ao E (ag (y:=(((i+1):Nat):Int)) (by omega)) ai)))<|aW<|OS.keepLe (a9 (by rfl)) OS.nil
  ·
   refine Ex<|Cr<|Wm E<|cF (Li:=[OB.row v1 93 kLimb row]) (L:=[]) .n cT (aX E ax) (c_trimO v1 row) fun p_ Lo_ hp_=>?_
   obtain ⟨v2,rfl,rfl,hx_t59⟩:=hp_
   refine Wa E<|Wn<|am<|tr 0 E (y:=(limbs (nval l*2^n))) (by rw [shlR_end (by omega) hS,nval_limbs]) ?_
   exact ct (.inl E) E (ar E ak) (au _) ⟨v2,E,E,trivial⟩
theorem c_nat_shr (l:List Nat) (n:Nat) (hn:n<32):Fn Tryz.prog 275 [kN.is l,kN6.is (n:Int)] (kN.is (limbs (nval l/2^n))):=by
 refine aK Tryz.func275 E E fun m w=>aR (i:=0) E ce fun hL=>?_
 have hll:=limbs_len_le hL
 have lA:=limbs_lims (nval l)
 refine aR (i:=0) E bu fun hB=>Cr<|Wa E<|Wr<|Wm E<|Ws (f1 cT E (cW l))<|Wa E<|Wr<|Wm E<|Ws (dM E E (by omega) (c:=0) (quo32 hn))<|Wm E<|Ws (d5 E E (by omega) (c:=(n:Int)) (rem32 hn))<|Ws (bb E U3 U180 (c:=(n:Int)) (bA (by omega)))<|Wa E<|Wa E<|Wn ?_
 refine aa<|Cr<|Wm E<|Wm E<|Ws (aA E U27)<|Ws (cR E E)<|Wn ?_
 refine aB E (fun h_t20=>?_)<|fun h_t20=>?_
 ·
  refine Cr<|Wa E<|Wn<|am<|aQ<|cC (q:=kN.is ([]:List Nat)) 4 E (cL _)<|tl 4 E (y:=(limbs (nval l/2^n))) (by rw [limbs0 (n:=nval l) (by omega),Nat.zero_div,limbs_zero]) ?_
  exact Qd E (ar E ak) ⟨E,E⟩
 ·
  refine Ck<|Cr<|Wm E<|Ws (aA E U27)<|Wm E<|Ws (bq E E (c:=(((limbs (nval l)).length:Int)-0)) (ay (by omega)))<|bp ((limbs (nval l)).length) .n E E (by omega) (by omega) U27 bO dC fun v1=>Wa E<|Wn<|aa<|Cr<|Wm E<|Ws (cZ E (ac 0 E) U27)<|Wm E<|Wn<|aw<|bN (fun (r:List Nat)=>ShrR (limbs (nval l)) r n) (fun (r:List Nat)=>[(0,kN.is (limbs (nval l))),(5,kN6.is 0),(6,(kInt .u64).is (n:Int)),(7,VP.ex v1),(27,kN6.is ((limbs (nval l)).length:Int)),(28,kN6.is (r.length:Int))]) (fun (r:List Nat)=>[OB.row v1 93 kLimb (fil (limbs (nval l)).length r)]) (fun (r:List Nat)=>(limbs (nval l)).length-r.length) [] (shrR_0 _ _) (af E E E E (ao E (ag (y:=((limbs (nval l)).length:Int)) (by simp)) (ao E (ag (y:=([].length:Int)) (by rfl)) ai))) (aW (.keepLe (a9 (fil_nil _)) .nil)) ?_
  intro r hS
  have hi:=hS.1
  have hx:=getD_lt lA r.length
  have hy:=getD_lt lA (r.length+1)
  have hfl:=fil_len (n:=(limbs (nval l)).length) (r:=r) (by omega)
  refine Cr<|Ws (aS E E)<|Wn<|aa ?_
  refine aB E (fun h_t29=>?_)<|fun h_t29=>?_
  ·
   refine Ck<|aa<|aw<|Cr<|Wm E<|Wa E<|Wr<|Wm E<|Wm E<|Wm E<|Ws (aI E E (c:=((r.length:Int)+0)) (ay (by omega)))<|Ws (aT r.length E E U27 aP (by omega) (v:=((limbs (nval l)).getD r.length 0)) (gd 0 (by omega)))<|Ws (aV (aO E aP) (bQ _))<|Ws (bb E U93 U178 (c:=(((limbs (nval l)).getD r.length 0):Int)) (bA (by omega)))<|Wa E<|Wn<|aa<|aa ?_
   refine ah<|Wm E<|Wm E<|Ws (aI E E (c:=((r.length:Int)+0)) (ay (by omega)))<|Ws (aI E E (c:=(((r.length:Int)+0)+1)) (ay (by omega)))<|Wm E<|Ws (aA E U27)<|Ws (aS E E)<|Wn ?_
   refine aB E (fun h_t44=>?_)<|fun h_t44=>?_
   ·
    refine ah<|Wm E<|Wm E<|Wm E<|Wm E<|Ws (aI E E (c:=((r.length:Int)+0)) (ay (by omega)))<|Ws (aI E E (c:=(((r.length:Int)+0)+1)) (ay (by omega)))<|Ws (aT (r.length+1) E E U27 aP (by omega) (v:=((limbs (nval l)).getD (r.length+1) 0)) (gd 0 (by omega)))<|Ws (aV (aO E aP) (bQ _))<|Ws (bb E U93 U178 (c:=(((limbs (nval l)).getD (r.length+1) 0):Int)) (bA (by omega)))<|Ws (O.shl E E (by omega) (c:=(((limbs (nval l)).getD (r.length+1) 0*2^32:Nat):Int)) (shlN 32 E E (by decide) (by omega)))<|Ws (O.or E E (c:=(((limbs (nval l)).getD (r.length+1) 0*2^32+(limbs (nval l)).getD r.length 0:Nat):Int)) (orN' 32 E E hx (by omega)))<|Wa E<|Wn<|ah<|Wm E<|Wm E<|Wm E<|Wm E<|Ws (cP E E (by omega) (c:=((((limbs (nval l)).getD (r.length+1) 0*2^32+(limbs (nval l)).getD r.length 0)/2^n:Nat):Int)) (cQ n E E (show n≤64 by omega)))<|Ws (bb E U178 U93 (c:=((((limbs (nval l)).getD (r.length+1) 0*2^32+(limbs (nval l)).getD r.length 0)/2^n%4294967296:Nat):Int)) (dg E))<|Ws (aY (k:=kLimb) (xs:=(fil (limbs (nval l)).length r)) (n:=(r.length:Int)) r.length E E (ac 0 E) U27 aP E (by omega))<|aG .n (cd 0 r.length E E Li E (y0:=((fil (limbs (nval l)).length r).getD r.length 0)) (gd 0 (by omega)) aP E (bF (x:=(((limbs (nval l)).getD (r.length+1) 0*2^32+(limbs (nval l)).getD r.length 0)/2^n%4294967296:Nat)) (by omega))) ?_
    refine aj<|Qb<|ah<|Ws (aI E E (c:=((r.length:Int)+1)) (ay (by omega)))<|Wm E<|aj ?_
    exact bG (r++[((limbs (nval l)).getD (r.length+1) 0*2^32+(limbs (nval l)).getD r.length 0)/2^n%4294967296]) (by simp;omega) (shrR_s lA hn (by omega) hS) (af E E E E (Z E (ao E (ag (y:=((r++[((limbs (nval l)).getD (r.length+1) 0*2^32+(limbs (nval l)).getD r.length 0)/2^n%4294967296]).length:Int)) (by simp)) ai)))<|aW<|.keepLe (a9 (eI (by omega))) .nil
   ·
    have hy0:=getD_out (l:=limbs (nval l)) (i:=r.length+1) (by omega)
    refine tl 9 E (y:=(((limbs (nval l)).getD (r.length+1) 0*2^32+(limbs (nval l)).getD r.length 0:Nat):Int)) (by rw [hy0];simp)<|Ck<|ah<|Wm E<|Wm E<|Wm E<|Wm E<|Ws (cP E E (by omega) (c:=((((limbs (nval l)).getD (r.length+1) 0*2^32+(limbs (nval l)).getD r.length 0)/2^n:Nat):Int)) (cQ n E E (show n≤64 by omega)))<|Ws (bb E U178 U93 (c:=((((limbs (nval l)).getD (r.length+1) 0*2^32+(limbs (nval l)).getD r.length 0)/2^n%4294967296:Nat):Int)) (dg E))<|Ws (aY (k:=kLimb) (xs:=(fil (limbs (nval l)).length r)) (n:=(r.length:Int)) r.length E E (ac 0 E) U27 aP E (by omega))<|aG .n (cd 0 r.length E E Li E (y0:=((fil (limbs (nval l)).length r).getD r.length 0)) (gd 0 (by omega)) aP E (bF (x:=(((limbs (nval l)).getD (r.length+1) 0*2^32+(limbs (nval l)).getD r.length 0)/2^n%4294967296:Nat)) (by omega)))<|aj<|Qb<|ah<|Ws (aI E E (c:=((r.length:Int)+1)) (ay (by omega)))<|Wm E<|aj ?_
    exact bG (r++[((limbs (nval l)).getD (r.length+1) 0*2^32+(limbs (nval l)).getD r.length 0)/2^n%4294967296]) (by simp;omega) (shrR_s lA hn (by omega) hS) (af E E E E (Z E (ao E (ag (y:=((r++[((limbs (nval l)).getD (r.length+1) 0*2^32+(limbs (nval l)).getD r.length 0)/2^n%4294967296]).length:Int)) (by simp)) ai)))<|aW<|.keepLe (a9 (eI (by omega))) .nil
  ·
   refine Ex<|aa<|tr 0 E (y:=r) (fil_full (by omega))<|ah<|Wm E<|bJ 0 E (kp 0 E (kp 5 E (kp 6 E (.hit (i:=7) E (kp 27 E (kp 28 E (kp 29 E (.hit (i:=64) E .nil))))))))<|Ws (f1 cT E (cW r))<|Wa E<|Wn<|am<|tl 4 E (y:=(limbs (nval l/2^n))) (by rw [shrR_end lA (by omega) hS,nval_limbs]) ?_
   exact Qd E (ar E ak) ⟨E,E⟩
end Fw
namespace Fw
open Go (IntKind)
theorem limbs_len_pos {n:Nat} (h:n≠0):1≤(limbs n).length:=by rw [limbs_pos h];simp
theorem limbs_top {n:Nat} (h:n≠0):(limbs n).getD ((limbs n).length-1) 0≠0:=by
  have h1:=limbs_len_pos h
  have h2:=split_at (l:=limbs n) (Nat.le_refl _) h1
  rw [List.drop_length,nval_limbs,nval,Nat.mul_zero,Nat.add_zero] at h2
  intro h0
  rw [h0,Nat.mul_zero,Nat.add_zero] at h2
  have h3:=nval_lt ((limbs_lims n).take ((limbs n).length-1))
  rw [List.length_take,Nat.min_eq_left (Nat.sub_le _ _),←h2] at h3
  have h4:=limbs_last h
  omega
theorem one_limb {n:Nat} (h:(limbs n).length=1):(limbs n).getD 0 0=n:=by
  have h1:=nval_limbs n
  match hl:limbs n,h with
  | [x],_=>rw [hl] at h1;simp [nval] at h1;simpa using h1
theorem div_sh {b:Nat} (hb:b≠0):∃s:Nat,(32:Int)-(bitlen ((limbs b).getD ((limbs b).length-1) 0):Int)=s∧s<32∧(limbs (b*2^s)).length=(limbs b).length:=by
  have ht:=limbs_top hb
  have hx:=getD_lt (limbs_lims b) ((limbs b).length-1)
  have h1:=@bitlen_le ((limbs b).getD ((limbs b).length-1) 0) 32 hx
  have h2:bitlen ((limbs b).getD ((limbs b).length-1) 0)≠0:=fun h=>ht (bitlen_0.1 h)
  refine ⟨32-bitlen ((limbs b).getD ((limbs b).length-1) 0),by omega,by omega,?_⟩
  have hp:=limbs_len_pos hb
  have h3:=split_at (l:=limbs b) (Nat.le_refl _) hp
  rw [List.drop_length,nval_limbs,nval,Nat.mul_zero,Nat.add_zero] at h3
  have h4:=nval_lt ((limbs_lims b).take ((limbs b).length-1))
  rw [List.length_take,Nat.min_eq_left (Nat.sub_le _ _)] at h4
  have h5:=lt_bitlen ((limbs b).getD ((limbs b).length-1) 0)
  generalize hq:bitlen ((limbs b).getD ((limbs b).length-1) 0)=q at *
  generalize (limbs b).getD ((limbs b).length-1) 0=t at *
  apply Nat.le_antisymm
  · apply limbs_len_lt
    have h6:b<4294967296^((limbs b).length-1)*2^q:=by
      have:4294967296^((limbs b).length-1)*(t+1)≤4294967296^((limbs b).length-1)*2^q:=Nat.mul_le_mul_left _ h5
      rw [Nat.mul_add,Nat.mul_one] at this
      omega
    have h7:b*2^(32-q)<4294967296^((limbs b).length-1)*2^q*2^(32-q):=Nat.mul_lt_mul_of_pos_right h6 (Nat.two_pow_pos _)
    rw [Nat.mul_assoc,←Nat.pow_add,Nat.add_sub_cancel' h1,show (2:Nat)^32=4294967296 from rfl,←Nat.pow_succ,show ((limbs b).length-1).succ=(limbs b).length from by omega] at h7
    exact h7
  · exact limbs_mono (Nat.le_mul_of_pos_right _ (Nat.two_pow_pos _))
theorem take_pad {L:List Nat} {k:Nat} (h:L.length≤k) (hk:k≤L.length+2):((L++[0,0]).take k).length=k∧nval ((L++[0,0]).take k)=nval L:=by
  refine ⟨by simp;omega,?_⟩
  rw [List.take_append,List.take_of_length_le h,nval_append]
  have:nval (([0,0]:List Nat).take (k-L.length))=0:=by
    have:[0,0]=List.replicate 2 0:=rfl
    rw [this,List.take_replicate,nval_replicate0]
  rw [this];rfl
def DivR (D V la lb:Nat) (us qs:List Nat) (k:Nat):Prop:=us.length=la+1∧Lims us∧qs.length=la-lb+1∧Lims qs∧k≤la-lb+1∧nval us+V*(4294967296^k*nval (qs.drop k))=D∧nval (us.drop k)<V
theorem divR_0 {a b s:Nat} {us:List Nat} (hb:b≠0) (hab:b≤a) (hu:us.length=(limbs a).length+1) (lu:Lims us) (hv:nval us=a*2^s) :
    DivR (a*2^s) (b*2^s) (limbs a).length (limbs b).length us (List.replicate ((limbs a).length-(limbs b).length+1) 0) ((limbs a).length-(limbs b).length+1):=by
  have hl:=limbs_mono hab
  have hp:=limbs_len_pos hb
  obtain ⟨K,hK⟩:∃K,K=(limbs a).length-(limbs b).length+1:=⟨_,rfl⟩
  rw [←hK]
  refine ⟨hu,lu,by simp [hK],fun x hx=>?_,Nat.le_of_eq hK,?_,?_⟩
  · have:=(List.mem_replicate.1 hx).2;omega
  · rw [List.drop_of_length_le (by simp),hv];simp [nval]
  · have h1:=nval_split us K
    rw [hv] at h1
    have h2:=lt_limbs a
    have h3:=limbs_last hb
    have h4:4294967296^K*nval (us.drop K)<4294967296^K*(b*2^s):=by
      have h5:a*2^s<4294967296^(limbs a).length*2^s:=Nat.mul_lt_mul_of_pos_right h2 (Nat.two_pow_pos _)
      have h6:4294967296^(limbs a).length*2^s≤4294967296^K*(b*2^s):=by
        rw [←Nat.mul_assoc]
        apply Nat.mul_le_mul_right
        have h7:4294967296^(limbs a).length=4294967296^K*4294967296^((limbs b).length-1):=by
          rw [←Nat.pow_add];congr 1;omega
        rw [h7]
        exact Nat.mul_le_mul_left _ h3
      omega
    exact Nat.lt_of_mul_lt_mul_left h4
theorem divR_win {D V la lb:Nat} {us qs:List Nat} {k:Nat} (hlb:lb=(limbs V).length) (hl:lb≤la) (hk:0<k) (h:DivR D V la lb us qs k) :
    nval ((us.drop (k-1)).take (lb+1))<V*4294967296∧nval (us.drop (k-1))=nval ((us.drop (k-1)).take (lb+1))∧nval (us.drop (k-1+(lb+1)))=0:=by
  obtain ⟨h1,h2,h3,h4,h5,h6,h7⟩:=h
  have e1:=nval_drop us (k-1)
  rw [show k-1+1=k from by omega] at e1
  have e2:=getD_lt h2 (k-1)
  have e3:nval (us.drop (k-1))<V*4294967296:=by omega
  have e4:=nval_split (us.drop (k-1)) (lb+1)
  rw [List.drop_drop] at e4
  have e5:=lt_limbs V
  rw [←hlb] at e5
  have e6:nval (us.drop (k-1+(lb+1)))=0:=by
    rcases Nat.eq_zero_or_pos (nval (us.drop (k-1+(lb+1)))) with h | h
    · exact h
    · exfalso
      have:4294967296^(lb+1)*1≤4294967296^(lb+1)*nval (us.drop (k-1+(lb+1))):=Nat.mul_le_mul_left _ h
      rw [Nat.mul_one] at this
      have h8:V*4294967296<4294967296^(lb+1):=by
        rw [Nat.pow_succ];exact Nat.mul_lt_mul_of_pos_right e5 (by decide)
      omega
  rw [e6,Nat.mul_zero,Nat.add_zero] at e4
  exact ⟨by rw [←e4];exact e3,e4,e6⟩
theorem divR_q {D V la lb:Nat} {us qs:List Nat} {k:Nat} (hlb:lb=(limbs V).length) (hl:lb≤la) (hk:0<k) (h:DivR D V la lb us qs k):nval ((us.drop (k-1)).take (lb+1))/V<4294967296:=by
  have g1:=(divR_win hlb hl hk h).1
  have hVp:0<V:=by have:=h.2.2.2.2.2.2;omega
  rw [Nat.div_lt_iff_lt_mul hVp,Nat.mul_comm];exact g1
theorem divR_s {D V la lb:Nat} {us qs w:List Nat} {k:Nat} (hlb:lb=(limbs V).length) (hl:lb≤la) (hk:0<k) (h:DivR D V la lb us qs k) (hw:w.length=lb+1) (lw:Lims w) (hwv:nval w=nval ((us.drop (k-1)).take (lb+1))%V) :
    DivR D V la lb (us.take (k-1)++w++us.drop (k-1+(lb+1))) (qs.set (k-1) (nval ((us.drop (k-1)).take (lb+1))/V)) (k-1):=by
  obtain ⟨g1,g2,g3⟩:=divR_win hlb hl hk h
  obtain ⟨h1,h2,h3,h4,h5,h6,h7⟩:=h
  have hVp:0<V:=by omega
  have hq:nval ((us.drop (k-1)).take (lb+1))/V<4294967296:=by
    rw [Nat.div_lt_iff_lt_mul hVp,Nat.mul_comm];exact g1
  generalize hU:nval ((us.drop (k-1)).take (lb+1))=U at *
  have htl:(us.take (k-1)).length=k-1:=by simp;omega
  have hnv:nval (us.take (k-1)++w++us.drop (k-1+(lb+1)))=nval (us.take (k-1))+4294967296^(k-1)*(U%V):=by
    rw [List.append_assoc,nval_append,nval_append,g3,Nat.mul_zero,Nat.add_zero,hwv,htl]
  have hus:=nval_split us (k-1)
  rw [g2] at hus
  refine ⟨?_,?_,by simpa using h3,h4.set hq,by omega,?_,?_⟩
  · simp [htl,hw];omega
  · intro x hx
    rcases List.mem_append.1 hx with hx | hx
    · rcases List.mem_append.1 hx with hx | hx
      · exact h2.take _ x hx
      · exact lw x hx
    · exact h2.drop _ x hx
  · rw [hnv,drop_set (by omega),nval,show k-1+1=k from by omega,←h6,hus]
    have e1:=Nat.div_add_mod U V
    have e2:4294967296^(k-1)*(4294967296*nval (qs.drop k))=4294967296^k*nval (qs.drop k):=by
      rw [←Nat.mul_assoc,←Nat.pow_succ,show (k-1).succ=k from by omega]
    rw [Nat.mul_add (4294967296^(k-1)) (U/V),e2,Nat.mul_add V]
    have e3:V*(4294967296^(k-1)*(U/V))+4294967296^(k-1)*(U%V)=4294967296^(k-1)*U:=by
      rw [Nat.mul_left_comm,←Nat.mul_add,e1]
    omega
  · rw [List.append_assoc,List.drop_append_of_le_length (by omega),List.drop_of_length_le (by omega),List.nil_append,nval_append,g3,Nat.mul_zero,Nat.add_zero,hwv]
    exact Nat.mod_lt _ hVp
theorem divR_end {a b s la lb:Nat} {us qs:List Nat} {k:Nat} (hk:k=0) (h:DivR (a*2^s) (b*2^s) la lb us qs k):nval qs=a/b∧nval us/2^s=a%b:=by
  obtain ⟨h1,h2,h3,h4,h5,h6,h7⟩:=h
  subst hk
  simp only [List.drop_zero,Nat.pow_zero,Nat.one_mul] at h6 h7
  have hp:=Nat.two_pow_pos s
  have e1:nval qs=a*2^s/(b*2^s):=by
    rw [←h6,Nat.add_mul_div_left _ _ (by omega),Nat.div_eq_of_lt h7,Nat.zero_add]
  have e2:nval us=a*2^s%(b*2^s):=by
    rw [←h6,Nat.add_mul_mod_self_left,Nat.mod_eq_of_lt h7]
  refine ⟨?_,?_⟩
  · rw [e1,Nat.mul_div_mul_right _ _ hp]
  · rw [e2,Nat.mul_mod_mul_right,Nat.mul_div_cancel _ hp]
end Fw
namespace Fw
open Go Go.Proofs
theorem c_nat_Div (a b:List Nat) (hA:a.length≤549755813000) (hB:b.length≤549755813000):Fn Tryz.prog 257 [kN.is a,kN.is b] (VP.tup [kN.is (limbs (nval a/nval b)),kN.is (if nval b=0 then [] else limbs (nval a%nval b)),kN6.is (if nval b=0 then 11 else 0)]):=by
 refine aK Tryz.func257 E E fun m w=>aR (i:=0) E ce fun la=>aR (i:=1) E ce fun lb=>?_
 have hla:=limbs_len_le la
 have hlb:=limbs_len_le lb
 have lA:=limbs_lims (nval a)
 have lB:=limbs_lims (nval b)
 refine Cr<|Wa E<|Wa E<|Wa E<|Wr<|Wm E<|Ws (f1 cT E (cW a))<|Wm E<|Ws (f1 cT E (cW b))<|Wa E<|Wa E<|Wn<|aa<|aw<|Cr<|Wm E<|Ws (aA E U27)<|Ws (bR E E) ?_
 refine Wa E<|Wn ?_
 refine aB E (fun h_t18=>?_)<|fun h_t18=>?_
 ·
  have hb0:nval b=0:=limbs0 (by omega)
  refine Cr<|Wa E<|Wa E<|Wa E<|Wn<|am<|bE<|aQ<|cC (q:=kN.is ([]:List Nat)) 4 E (cL _)<|cC (q:=kN.is ([]:List Nat)) 5 E (cL _)<|tl 4 E (y:=(limbs (nval a/nval b))) (by rw [hb0,Nat.div_zero,limbs_zero])<|tl 5 E (y:=(if nval b=0 then [] else limbs (nval a%nval b))) (by rw [if_pos hb0])<|tl 6 E (y:=(if nval b=0 then 11 else 0)) (by rw [if_pos hb0]) ?_
  exact Qd E (ar E (ar E (ar E ak))) ⟨E,E⟩
 ·
  have hb0:nval b≠0:=fun h=>by rw [h,limbs_zero] at h_t18;exact h_t18 rfl
  have hlbp:=limbs_len_pos hb0
  refine Cr<|Wm E<|Wm E<|Ws (f2 fn190 E E (fk (limbs (nval a)) (limbs (nval b))))<|Ws (aS E E)<|Wa E<|Wn ?_
  refine aB E (fun h_t22=>?_)<|fun h_t22=>?_
  ·
   refine Cr<|Wm E<|Ws (f1 fn270 E (c_nat_Norm (limbs (nval a))))<|Wa E<|Wa E<|Wa E<|Wn<|am<|bE<|aQ ?_
   have hlt:nval a<nval b:=by have:=cmpI_lt h_t22;rwa [nval_limbs,nval_limbs] at this
   refine cC (q:=kN.is ([]:List Nat)) 4 E (cL _)<|tl 4 E (y:=(limbs (nval a/nval b))) (by rw [Nat.div_eq_of_lt hlt,limbs_zero])<|tl 5 E (y:=(if nval b=0 then [] else limbs (nval a%nval b))) (by rw [if_neg hb0,nval_limbs,Nat.mod_eq_of_lt hlt])<|tl 6 E (y:=(if nval b=0 then 11 else 0)) (by rw [if_neg hb0]) ?_
   exact Qd E (ar E (ar E (ar E ak))) ⟨E,E⟩
  ·
   have hab:nval b≤nval a:=by have:=cmpI_ge h_t22;rwa [nval_limbs,nval_limbs] at this
   have hll:=limbs_mono hab
   refine Cr<|Wm E<|Ws (aA E U27)<|Ws (bR E E)<|Wa E<|Wn ?_
   refine aB E (fun h_t29=>?_)<|fun h_t29=>?_
   ·
    refine aa ?_
    have hx0:=getD_lt lB 0
    refine ah<|Wm E<|Wm E<|Ws (aT 0 E E U27 aP E (v:=((limbs (nval b)).getD 0 0)) (gd 0 (by omega)))<|Ws (aV (aO E aP) (bQ _))<|Ws (aF fn271 (aX E (aq E (bF (x:=((limbs (nval b)).getD 0 0)) (by omega)) ax)) (c_nat_short (limbs (nval a)) ((limbs (nval b)).getD 0 0) (by rw [one_limb (by omega)];exact hb0)))<|Wm E<|Ws (aH E E)<|Ws (aH E E)<|Wa E<|Wa E<|Wn<|aa ?_
    have hm:nval (limbs (nval a))%(limbs (nval b)).getD 0 0<4294967296:=Nat.lt_of_lt_of_le (Nat.mod_lt _ (by rw [one_limb (by omega)];omega)) (Nat.le_of_lt hx0)
    refine ah<|Wm E<|Wm E<|Ws (bC U27 bO (bZ E (bF (x:=(nval (limbs (nval a))%((limbs (nval b)).getD 0 0):Nat)) (by omega)) bw) E (by decide))<|Ws (f1 cT E (cW [(nval (limbs (nval a))%((limbs (nval b)).getD 0 0):Nat)]))<|Wa E<|Wa E<|Wa E<|Wn<|am<|bE<|aQ<|tl 4 E (y:=(limbs (nval a/nval b))) (by rw [one_limb (by omega),nval_limbs])<|tl 5 E (y:=(if nval b=0 then [] else limbs (nval a%nval b))) (by rw [if_neg hb0,one_limb (by omega),nval_limbs];simp [nval])<|tl 6 E (y:=(if nval b=0 then 11 else 0)) (by rw [if_neg hb0]) ?_
    exact Qd E (ar E (ar E (ar E ak))) ⟨E,E⟩
   ·
    refine cc<|Qb<|aa ?_
    have hx9:=getD_lt lB ((limbs (nval b)).length-1)
    refine ah<|Wm E<|Wm E<|Ws (aA E U27)<|Ws (bq E E (c:=(((limbs (nval b)).length:Int)-1)) (ay (by omega)))<|Ws (aT ((limbs (nval b)).length-1) E E U27 aP (by omega) (v:=((limbs (nval b)).getD ((limbs (nval b)).length-1) 0)) (gd 0 (by omega)))<|Ws (aV (aO E aP) (bQ _))<|Ws (aF fn272 (aq E (bF (x:=((limbs (nval b)).getD ((limbs (nval b)).length-1) 0)) (by omega)) ax) (c_bits_LeadingZeros32 ((limbs (nval b)).getD ((limbs (nval b)).length-1) 0)))<|Wa E<|Wn<|aa ?_
    obtain ⟨s,hsv,hs,hvl⟩:=div_sh hb0
    refine tl 9 E (y:=(s:Int)) hsv ?_
    have hV:nval b*2^s≠0:=Nat.mul_ne_zero hb0 (Nat.ne_of_gt (Nat.two_pow_pos s))
    refine ah<|Wm E<|Wm E<|cF (Li:=[]) (L:=[]) .n fn273 (aX E (aX E ax)) (c_nat_shl (limbs (nval b)) s hs (by omega)) fun p_ Lo_ hp_=>?_
    obtain ⟨v1,rfl,rfl,hx_t54⟩:=hp_
    refine Wa E<|Wn<|aa<|tr 0 E (y:=(limbs (nval b*2^s))) (by rw [nval_limbs])<|bJ 0 E (kp 0 E (kp 1 E (kp 4 E (kp 5 E (kp 6 E (kp 9 E (.hit (i:=10) E (kp 14 E (kp 15 E (kp 16 E (kp 17 E (kp 18 E (kp 19 E (kp 20 E (kp 21 E (kp 22 E (kp 23 E (kp 24 E (kp 25 E (kp 26 E (kp 29 E (kp 30 E (kp 31 E (kp 32 E (kp 45 E (kp 46 E (kp 47 E (kp 48 E (kp 49 E (kp 50 E (kp 51 E (kp 52 E (kp 53 E (.hit (i:=54) E .nil)))))))))))))))))))))))))))))))))) ?_
    have hul0:(limbs (nval a*2^s)).length≤(limbs (nval a)).length+1:=limbs_len_lt (by rw [Nat.pow_succ];exact Nat.mul_lt_mul_of_lt_of_le (lt_limbs _) (Nat.le_trans (pow32 hs).2.1 (by decide)) (by decide))
    have hul1:(limbs (nval a)).length≤(limbs (nval a*2^s)).length:=limbs_mono (Nat.le_mul_of_pos_right _ (Nat.two_pow_pos s))
    refine ah<|Wm E<|Wm E<|cF (Li:=[]) (L:=[]) .n fn273 (aX E (aX E ax)) (c_nat_shl (limbs (nval a)) s hs (by omega)) fun p_ Lo_ hp_=>?_
    obtain ⟨v2,rfl,rfl,hx_t57⟩:=hp_
    refine Ws (bC U27 bO (bZ E (bF (x:=0) (by omega)) (bZ E (bF (x:=0) (by omega)) bw)) E (by decide))<|tr 0 E (y:=(limbs (nval a*2^s))) (by rw [nval_limbs])<|bL 0 .n E E E Lr U27 bO (by simp;omega) fun v3=>Wm E<|Ws (aA E U27)<|Ws (aI E E (c:=(((limbs (nval a)).length:Int)+1)) (ay (by omega)))<|WP.slR 0 ((limbs (nval a)).length+1) .n E E E U27 aP (by omega) (by simp;omega) fun v4=>Wa E<|Wn<|aa ?_
    obtain ⟨us0,hus0⟩:∃us0,us0=(limbs (nval a*2^s)++[0,0]).take ((limbs (nval a)).length+1):=⟨_,rfl⟩
    refine tr 0 E (y:=us0) (by rw [hus0]) ?_
    have hp1:=take_pad (L:=limbs (nval a*2^s)) (k:=(limbs (nval a)).length+1) hul0 (by omega)
    rw [←hus0] at hp1
    have lus:Lims us0:=by rw [hus0];exact Lims.take (fun x hx=>(List.mem_append.1 hx).elim (limbs_lims _ x) (fun h=>by simp at h;omega)) _
    refine ah<|Wm E<|Ws (aA E U27)<|Wm E<|Ws (aA E U27)<|Ws (bq E E (c:=(((limbs (nval a)).length:Int)-((limbs (nval b)).length:Int))) (ay (by omega)))<|Ws (aI E E (c:=((((limbs (nval a)).length:Int)-((limbs (nval b)).length:Int))+1)) (ay (by omega)))<|bp ((limbs (nval a)).length-(limbs (nval b)).length+1) .n E E (by omega) (by omega) U27 bO dC fun v5=>Wa E<|Wn<|aa<|Cr<|Wm E<|Ws (aA E U27)<|Wm E<|Ws (aA E U27)<|Ws (bq E E (c:=(((limbs (nval a)).length:Int)-((limbs (nval b)).length:Int))) (ay (by omega)))<|Wa E<|Wn<|aw<|CW.loop5 (fun (us:List Nat) (qs:List Nat) (k:Nat) (vq:Value) (vu:Value)=>DivR (nval a*2^s) (nval b*2^s) (limbs (nval a)).length (limbs (nval b)).length us qs k) (fun (us:List Nat) (qs:List Nat) (k:Nat) (vq:Value) (vu:Value)=>[(0,kN.is (limbs (nval a))),(1,kN.is (limbs (nval b))),(9,kN6.is (s:Int)),(10,kN.is (limbs (nval b*2^s))),(11,VP.ex vu),(12,VP.ex vq),(13,kN6.is ((k:Int)-1))]) (fun (us:List Nat) (qs:List Nat) (k:Nat) (vq:Value) (vu:Value)=>[OB.row vq 93 kLimb qs,OB.row vu 93 kLimb us]) (fun (us:List Nat) (qs:List Nat) (k:Nat) (vq:Value) (vu:Value)=>k) us0 (List.replicate ((limbs (nval a)).length-(limbs (nval b)).length+1) 0) ((limbs (nval a)).length-(limbs (nval b)).length+1) v5 v4 (divR_0 hb0 hab hp1.1 lus (by rw [hp1.2,nval_limbs])) (af E E E E (Z E (Z E (ao E (ag (y:=((((limbs (nval a)).length-(limbs (nval b)).length+1):Nat):Int)-1) (by omega)) ai)))) (au _) ?_
    intro us qs k vq vu hD
    have hul:=hD.1
    have hql:=hD.2.2.1
    have hk:=hD.2.2.2.2.1
    refine aa<|Cr<|Wm E<|Ws (cR E E)<|Wn ?_
    refine aB E (fun h_t77=>?_)<|fun h_t77=>?_
    ·
     refine Ck<|aa<|aw<|ah<|Wm E<|Wm E<|Wm E<|Wm E<|Wm E<|Wm E<|Ws (aA E U27)<|Ws (aI E E (c:=(((k:Int)-1)+((limbs (nval b*2^s)).length:Int))) (ay (by omega)))<|Ws (aI E E (c:=((((k:Int)-1)+((limbs (nval b*2^s)).length:Int))+1)) (ay (by omega)))<|Ws (O.slW (k-1) (k-1+((limbs (nval b*2^s)).length+1)) E E E (ac 1 E) U27 aP (by omega) (by omega) (by omega) (by omega))<|Wm E<|bD (bI [1,0] (by decide) E)<|cF (Li:=[OB.row vu 93 kLimb us]) (L:=[OB.row vq 93 kLimb qs]) .n fn274 (aq E (win_le (by simp [kLimb]) (by omega)) (aX E ax)) (c_nat_digit vu us (limbs (nval b*2^s)) (k-1) (by omega) (by omega) (limbs_top hV) (by rw [nval_limbs,hvl];exact (divR_win (lb:=(limbs (nval b)).length) hvl.symm (by omega) (by omega) hD).1)) fun p_ Lo_ hp_=>?_
     obtain ⟨w,rfl,rfl,hw⟩:=hp_
     have hqd:nval ((us.drop (k-1)).take ((limbs (nval b*2^s)).length+1))/nval (limbs (nval b*2^s))<4294967296:=by rw [nval_limbs,hvl];exact divR_q (lb:=(limbs (nval b)).length) hvl.symm (by omega) (by omega) hD
     refine Ws (aY (k:=kLimb) (xs:=qs) (n:=(k:Int)-1) (k-1) E E (ac 1 E) U27 aP (by omega) (by omega))<|aG .n (cd 1 (k-1) E E Li E (y0:=(qs.getD (k-1) 0)) (gd 0 (by omega)) aP E (bF (x:=(nval ((us.drop (k-1)).take ((limbs (nval b*2^s)).length+1))/nval (limbs (nval b*2^s)):Nat)) (by omega)))<|aj<|Qb<|ah<|Wm E<|Ws (bq E E (c:=(((k:Int)-1)-1)) (ay (by omega)))<|Wa E<|aj<|bD (bI [1,0] (by decide) E) ?_
     exact QE.round5 (us.take (k-1)++w++us.drop (k-1+((limbs (nval b*2^s)).length+1))) (qs.set (k-1) (nval ((us.drop (k-1)).take ((limbs (nval b*2^s)).length+1))/nval (limbs (nval b*2^s)))) (k-1) vq vu (by omega) (by rw [hvl] at hw ⊢;rw [nval_limbs] at hw ⊢;exact divR_s (lb:=(limbs (nval b)).length) hvl.symm (by omega) (by omega) hD hw.1 hw.2.1 hw.2.2) (af E E E E (Z E (Z E (ao E (ag (y:=(((k-1):Nat):Int)-1) (by omega)) ai))))<|aW<|OS.keepLe (a9 (by rfl))<|OS.keepLe (a9 (by rfl)) OS.nil
    ·
     refine Ex<|Cr<|Wm E<|bJ 0 E (kp 0 E (kp 1 E (kp 9 E (kp 10 E (kp 11 E (.hit (i:=12) E (kp 13 E (kp 76 E (kp 77 E (.hit (i:=93) E .nil))))))))))<|Ws (f1 cT E (cW qs))<|Wm E<|bJ 0 E (kp 0 E (kp 1 E (kp 9 E (kp 10 E (.hit (i:=11) E (kp 12 E (kp 13 E (kp 76 E (kp 77 E (kp 93 E (kp 94 E (.hit (i:=95) E .nil))))))))))))<|Ws (f1 cT E (cW us))<|Wm E<|Ws (f2 fn275 E E (c_nat_shr (limbs (nval us)) s hs))<|Wa E<|Wa E<|Wa E<|Wn<|am ?_
     have hend:=divR_end (by omega) hD
     refine tl 4 E (y:=(limbs (nval a/nval b))) (by rw [hend.1])<|tl 5 E (y:=(if nval b=0 then [] else limbs (nval a%nval b))) (by rw [if_neg hb0,nval_limbs,hend.2])<|tl 6 E (y:=(if nval b=0 then 11 else 0)) (by rw [if_neg hb0]) ?_
     exact Qd E (ar E (ar E (ar E ak))) ⟨E,E⟩
theorem c_nat_Gcd (a b:List Nat) (hA:a.length≤549755813000) (hB:b.length≤549755813000):Fn Tryz.prog 253 [kN.is a,kN.is b] (kN.is (limbs (Nat.gcd (nval a) (nval b)))):=by
 refine aK Tryz.func253 E E fun m w=>aR (i:=0) E ce fun la=>aR (i:=1) E ce fun lb=>?_
 have hla:=limbs_len_le la
 have hlb:=limbs_len_le lb
 refine Cr<|Wa E<|Wr<|Wm E<|Ws (f1 fn270 E (c_nat_Norm a))<|Wm E<|Ws (f1 fn270 E (c_nat_Norm b))<|Wa E<|Wa E<|Wn<|aa<|aw<|bX (fun (x:Nat) (y:Nat)=>Nat.gcd x y=Nat.gcd (nval a) (nval b)∧(limbs x).length≤549755813000∧(limbs y).length≤549755813000) (fun (x:Nat) (y:Nat)=>[(5,kN.is (limbs x)),(6,kN.is (limbs y))]) (fun (x:Nat) (y:Nat)=>[]) (fun (x:Nat) (y:Nat)=>y) (nval a) (nval b) ⟨E,by omega,by omega⟩ (Z E (Z E ai)) (au _) ?_
 intro x y ⟨hg,hx,hy⟩
 refine aa<|Cr<|Wm E<|Ws (aA E U27)<|Ws (cq E E)<|Wn ?_
 refine aB E (fun h_t16=>?_)<|fun h_t16=>?_
 ·
  have hy0:y≠0:=fun h=>by rw [h,limbs_zero] at h_t16;simp at h_t16
  refine Ck<|aw<|Cr<|Wm E<|Wm E<|Ws (f2 fn257 E E (c_nat_Div (limbs x) (limbs y) (by omega) (by omega)))<|Wm E<|Ws (aH E E)<|Ws (aH E E)<|Ws (aH E E)<|Wa E<|Wa E<|Wa E<|Wn<|ah<|Wm E<|Wm E<|Wa E<|Wa E<|aj<|dq ?_
  refine tl 6 E (y:=(limbs (x%y))) (by rw [nval_limbs,nval_limbs,if_neg hy0]) ?_
  exact bP y (x%y) (by exact Nat.mod_lt _ (Nat.pos_of_ne_zero hy0)) ⟨by rw [←hg,Nat.gcd_comm x y,Nat.gcd_rec y x,Nat.gcd_comm],hy,Nat.le_trans (limbs_mono (Nat.le_of_lt (Nat.mod_lt _ (Nat.pos_of_ne_zero hy0)))) hy⟩ (Z E (Z E ai))<|au _
 ·
  refine Ex<|Cr<|Wm E<|Wa E<|Wn<|am ?_
  have hy0:y=0:=limbs0 (by omega)
  refine tl 4 E (y:=(limbs (Nat.gcd (nval a) (nval b)))) (by rw [←hg,hy0,Nat.gcd_zero_right]) ?_
  exact Qd E (ar E ak) ⟨E,E⟩
theorem c_zint_Of (n:Int):Fn Tryz.prog 71 [kI64.is n] (kC.is n):=by
 refine aK Tryz.func71 E E fun m w=>aR (i:=0) E int_rng fun hn=>cC (q:=kN6.is n) 0 E (i64_le _)<|Cr<|a8 .n aZ fun b1=>Wr<|Wm E<|Ws (bb E U2 U178 E)<|Wa E<|Wn<|aa<|Cr<|Wm E<|Ws (aS E E)<|Wn ?_
 refine aB E (fun h_t7=>?_)<|fun h_t7=>?_
 ·
  refine ah<|Wm E<|Ws (O.neg E (c:=((n.natAbs:Nat):Int)) (of_neg h_t7 hn.1))<|Wa E<|Wr<|Wm E<|Ws (aS E E)<|Wm E<|Ws (bb E U178 U93 (c:=((n.natAbs%4294967296:Nat):Int)) (dg E))<|Wm E<|Ws (cP E E (by omega) (c:=((n.natAbs/2^32:Nat):Int)) (cQ 32 E E (by decide)))<|Ws (bb E U178 U93 (c:=((n.natAbs/2^32:Nat):Int)) (cN (by omega)))<|Ws (bC U27 bO (bZ E (bF (x:=(n.natAbs%4294967296:Nat)) (by omega)) (bZ E (bF (x:=(n.natAbs/2^32:Nat)) (by omega)) bw)) E (by decide))<|Ws (f2 dG E E (dB (decide (n<0)) [(n.natAbs%4294967296:Nat),(n.natAbs/2^32:Nat)]))<|aG .n (aD (l:=kC) (u:=ival ((decide (n<0)),[(n.natAbs%4294967296:Nat),(n.natAbs/2^32:Nat)])) 0 E E E ab E Lr)<|Wn<|am<|tb 0 E (y:=n) of_val ?_
  exact Qd E (a5 E (ac 0 E) ab ak) ⟨E,E⟩
 ·
  refine tl 3 E (y:=((n.natAbs:Nat):Int)) (of_pos h_t7 hn.2)<|Ck<|Cr<|Wm E<|Ws (aS E E)<|Wm E<|Ws (bb E U178 U93 (c:=((n.natAbs%4294967296:Nat):Int)) (dg E))<|Wm E<|Ws (cP E E (by omega) (c:=((n.natAbs/2^32:Nat):Int)) (cQ 32 E E (by decide)))<|Ws (bb E U178 U93 (c:=((n.natAbs/2^32:Nat):Int)) (cN (by omega)))<|Ws (bC U27 bO (bZ E (bF (x:=(n.natAbs%4294967296:Nat)) (by omega)) (bZ E (bF (x:=(n.natAbs/2^32:Nat)) (by omega)) bw)) E (by decide))<|Ws (f2 dG E E (dB (decide (n<0)) [(n.natAbs%4294967296:Nat),(n.natAbs/2^32:Nat)]))<|aG .n (aD (l:=kC) (u:=ival ((decide (n<0)),[(n.natAbs%4294967296:Nat),(n.natAbs/2^32:Nat)])) 0 E E E ab E Lr)<|Wn<|am<|tb 0 E (y:=n) of_val ?_
  exact Qd E (a5 E (ac 0 E) ab ak) ⟨E,E⟩
abbrev d8:=@c_zint_Of
theorem c_zint_Neg (z:Int):Fn Tryz.prog 145 [kZ.is z] (kC.is (-z)):=by
 refine aK Tryz.func145 E E fun m w=>cG 0 E fun y y_v y_n y_l=>Cr<|a6 .n E fun b1=>a8 .n aZ fun b2=>Wr<|Ws (aM E cw E)<|Ws (ae E (ac 1 E) (aU Li) cy E)<|Ws (di E)<|Ws (aM E bK E)<|Ws (ae E (ac 1 E) (aN Li) bM E)<|Ws (f2 dG E E (dB (!y.1) y.2))<|aG .n (aD (l:=kC) (u:=ival ((!y.1),y.2)) 0 E E E ab E Lr)<|Wn<|am<|tb 0 E (y:=(-z)) (by rw [←y_v];exact ival_not) ?_
 exact Qd E (a5 E (ac 0 E) ab ak) ⟨E,E⟩
abbrev ey:=@c_zint_Neg
theorem c_zint_Abs (z:Int):Fn Tryz.prog 155 [kZ.is z] (kC.is (z.natAbs:Int)):=by
 refine aK Tryz.func155 E E fun m w=>cG 0 E fun y y_v y_n y_l=>Cr<|a6 .n E fun b1=>a8 .n aZ fun b2=>Wr<|Ws (aM E bK E)<|Ws (ae E (ac 1 E) (aN Li) bM E)<|Ws (f2 dG E E (dB false y.2))<|aG .n (aD (l:=kC) (u:=ival (false,y.2)) 0 E E E ab E Lr)<|Wn<|am<|tb 0 E (y:=(z.natAbs:Int)) (by rw [←y_v,ival_abs];rfl) ?_
 exact Qd E (a5 E (ac 0 E) ab ak) ⟨E,E⟩
theorem c_zint_Form (z:Int):Fn Tryz.prog 132 [kZ.is z] (kC.is z):=by
 refine aK Tryz.func132 E E fun m w=>cG 0 E fun y y_v y_n y_l=>Cr<|a6 .n E fun b1=>a8 .n aZ fun b2=>Wr<|Ws (aM E cw E)<|Ws (ae E (ac 1 E) (aU Li) cy E)<|Ws (aM E bK E)<|Ws (ae E (ac 1 E) (aN Li) bM E)<|Ws (f2 dG E E (dB y.1 y.2))<|aG .n (aD (l:=kC) (u:=ival (y.1,y.2)) 0 E E E ab E Lr)<|Wn<|am<|tb 0 E (y:=z) y_v ?_
 exact Qd E (a5 E (ac 0 E) ab ak) ⟨E,E⟩
abbrev eO:=@c_zint_Form
theorem c_zint_Sub (x y:Int):Fn Tryz.prog 213 [kZ.is x,kZ.is y] (kC.is (x-y)):=by
 refine aK Tryz.func213 E E fun m w=>aR (i:=1) E dF fun hsy=>Cr<|a6 .n E fun b1=>a6 .n E fun b2=>a8 .n aZ fun b3=>Wn<|aa ?_
 refine ba (Γ:=[.fr (kZ.is x),.fr (kZ.is y),.fr (kC.is (-y)),.fr (kC.is (x+(-y)))]) (J E (fun N=>ae E (mN N 2 E) Li ab E) (J E (fun N=>ae E (mN N 1 E) Li ab E) (J E (fun N=>f1 fn145 E (ey y)) (J E (fun N=>aF dU (aX E (aq E (aJ (ec (by assumption))) ax)) (dP x (-y))) oz))))<|fun σ=>?_
 refine aG .n (aD (l:=kC) (u:=x+(-y)) 0 E E E ab E Lr)<|Wn<|am<|tb 0 E (y:=(x-y)) (Int.sub_eq_add_neg).symm ?_
 exact Qd E (a5 E (ac 0 E) ab ak) ⟨E,E⟩
abbrev ff:=@c_zint_Sub
theorem c_zint_Mul (x y:Int):Fn Tryz.prog 122 [kZ.is x,kZ.is y] (kC.is (x*y)):=by
 refine aK Tryz.func122 E E fun m w=>cG 0 E fun p p_v p_n p_l=>cG 1 E fun q q_v q_n q_l=>Cr<|a6 .n E fun b1=>a6 .n E fun b2=>a8 .n aZ fun b3=>Wn<|aa ?_
 refine ba (Γ:=[.fr (VP.pt b1 0),.fr (kBool.is p.1),.fr (VP.pt b2 0),.fr (kBool.is q.1),.fr (kBool.is (decide (p.1≠q.1))),.fr (VP.pt b1 1),.fr (kN.is p.2),.fr (VP.pt b2 1),.fr (kN.is q.2),.fr (kN.is (limbs (nval p.2*nval q.2))),.fr (kC.is (ival ((decide (p.1≠q.1)),(limbs (nval p.2*nval q.2)))))]) (J E (fun N=>aM E cw E) (J E (fun N=>ae E (mN N 2 E) (aU Li) cy E) (J E (fun N=>aM E cw E) (J E (fun N=>ae E (mN N 1 E) (aU Li) cy E) (J E (fun N=>O.neB E E U4) (J E (fun N=>aM E bK E) (J E (fun N=>ae E (mN N 2 E) (aN Li) bM E) (J E (fun N=>aM E bK E) (J E (fun N=>ae E (mN N 1 E) (aN Li) bM E) (J E (fun N=>f2 fn193 E E (c_nat_Mul p.2 q.2 (by omega))) (J E (fun N=>f2 dG E E (dB (decide (p.1≠q.1)) (limbs (nval p.2*nval q.2)))) oz)))))))))))<|fun σ=>?_
 refine aG .n (aD (l:=kC) (u:=ival ((decide (p.1≠q.1)),(limbs (nval p.2*nval q.2)))) 0 E E E ab E Lr)<|Wn<|am<|tb 0 E (y:=(x*y)) (by rw [←p_v,←q_v];exact ival_mul) ?_
 exact Qd E (a5 E (ac 0 E) ab ak) ⟨E,E⟩
abbrev c8:=@c_zint_Mul
theorem c_zint_Compare (x y:Int):Fn Tryz.prog 119 [kZ.is x,kZ.is y] (kN6.is ((x-y).sign)):=by
 refine aK Tryz.func119 E E fun m w=>cG 0 E fun p p_v p_n p_l=>cG 1 E fun q q_v q_n q_l=>Cr<|a6 .n E fun b1=>a6 .n E fun b2=>Wa E<|Wn<|aa ?_
 refine ba (Γ:=[.fr (kI.is (p.1,p.2)),.fr (kN6.is ((ival (p.1,p.2)).sign)),.fr (kI.is (q.1,q.2)),.fr (kN6.is ((ival (q.1,q.2)).sign))]) (J E (fun N=>ae E (mN N 1 E) Li ab E) (J E (fun N=>aF dp (aq E (kI_Z E (by omega)) ax) (dk (ival (p.1,p.2)))) (J E (fun N=>ae E (mN N 0 E) Li ab E) (J E (fun N=>aF dp (aq E (kI_Z E (by omega)) ax) (dk (ival (q.1,q.2)))) oz))))<|fun σ=>?_
 refine Wa E<|Wa E<|Wn<|aa<|aw<|Cr<|Wm E<|Wm E<|Ws (aS E E)<|Wa E<|Wn ?_
 refine aB E (fun h_t11=>?_)<|fun h_t11=>?_
 ·
  refine Cr<|Wa E<|Wn<|am<|bE<|aQ<|tl 4 E (y:=(x-y).sign) (zcmp_lt p_v q_v h_t11) ?_
  exact Qd E (ar E ak) ⟨E,E⟩
 ·
  refine Cr<|Wm E<|Wm E<|Ws (cq E E)<|Wa E<|Wn ?_
  refine aB E (fun h_t15=>?_)<|fun h_t15=>?_
  ·
   refine Cr<|Wa E<|Wn<|am<|bE<|aQ<|tl 4 E (y:=(x-y).sign) (zcmp_gt p_v q_v h_t15) ?_
   exact Qd E (ar E ak) ⟨E,E⟩
  ·
   refine cc<|Qb<|Cr<|Wm E<|Ws (aM E bK E)<|Ws (ae E (ac 1 E) (aN Li) bM E)<|Ws (aM E bK E)<|Ws (ae E (ac 0 E) (aN Li) bM E)<|Ws (f2 fn190 E E (fk p.2 q.2))<|Ws (dn E E (c:=((x-y).sign)) (zcmp_same p_v q_v h_t11 h_t15))<|Wa E<|Wn<|am ?_
   exact Qd E (ar E ak) ⟨E,E⟩
abbrev eZ:=@c_zint_Compare
theorem c_zint_Gcd (x y:Int):Fn Tryz.prog 207 [kZ.is x,kZ.is y] (kC.is (Int.gcd x y:Int)):=by
 refine aK Tryz.func207 E E fun m w=>cG 0 E fun p p_v p_n p_l=>cG 1 E fun q q_v q_n q_l=>Cr<|a6 .n E fun b1=>a6 .n E fun b2=>a8 .n aZ fun b3=>Wr<|Ws (aM E bK E)<|Ws (ae E (ac 2 E) (aN Li) bM E)<|Ws (aM E bK E)<|Ws (ae E (ac 1 E) (aN Li) bM E)<|Ws (f2 fn253 E E (c_nat_Gcd p.2 q.2 (by omega) (by omega)))<|Ws (f2 dG E E (dB false (limbs (Nat.gcd (nval p.2) (nval q.2)))))<|aG .n (aD (l:=kC) (u:=ival (false,(limbs (Nat.gcd (nval p.2) (nval q.2))))) 0 E E E ab E Lr)<|Wn<|am<|tb 0 E (y:=(Int.gcd x y:Int)) (by rw [←p_v,←q_v,Int.gcd,ival_abs,ival_abs,ival_pos rfl,nval_limbs]) ?_
 exact Qd E (a5 E (ac 0 E) ab ak) ⟨E,E⟩
end Fw
namespace Fw
open Go (IntKind)
theorem shl1_32 {n:Nat} (h:n<32) {b:Int} (hb:b=n):IntKind.u32.wrap ((1:Int)*2^(min b.toNat IntKind.u32.bits))=((2^n:Nat):Int):=by
  subst hb
  show IntKind.u32.wrap (1*2^(min _ 32))=_
  rw [Int.toNat_natCast,Nat.min_eq_left (Nat.le_of_lt h),Int.one_mul,wrs32 (s:=2^n) ⟨by norm_cast,Nat.lt_of_le_of_lt (pow32 h).2.1 (by decide)⟩]
theorem rdiv_top {R V:Nat} {n:Nat} (hn:n=(limbs V).length) (hV:V≠0) (hR:R<V*4294967296):R/V≤((limbs R).getD n 0*4294967296+(limbs R).getD (n-1) 0)/(limbs V).getD (n-1) 0:=by
  have hp:1≤n:=by rw [hn];exact limbs_len_pos hV
  have ht:=limbs_top hV
  rw [←hn] at ht
  have h1:=two_limbs (limbs R) (limbs_lims R) (n-1)
  rw [nval_limbs,show n-1+1=n from by omega] at h1
  have h2:=lt_limbs V
  rw [←hn] at h2
  have hpos:0<4294967296^(n-1):=Nat.pow_pos (by decide)
  have h3:R/4294967296^(n-1)<18446744073709551616:=by
    rw [Nat.div_lt_iff_lt_mul hpos]
    have e:18446744073709551616*4294967296^(n-1)=4294967296^n*4294967296:=by
      have:4294967296^n=4294967296^(n-1)*4294967296:=by
        conv=>lhs;rw [show n=n-1+1 from by omega,Nat.pow_succ]
      rw [this]
      generalize 4294967296^(n-1)=P
      omega
    rw [e]
    exact Nat.lt_trans hR (Nat.mul_lt_mul_of_pos_right h2 (by decide))
  rw [Nat.mod_eq_of_lt h3] at h1
  rw [show (4294967296:Nat)=2^32 from rfl] at *
  rw [h1,Nat.div_div_eq_div_mul]
  have h4:=split_at (l:=limbs V) (i:=n) (Nat.le_of_eq hn) hp
  rw [hn,List.drop_length,←hn,nval,Nat.mul_zero,Nat.add_zero,nval_limbs] at h4
  refine Nat.div_le_div_left ?_ (Nat.mul_pos (Nat.pow_pos (by decide)) (Nat.pos_of_ne_zero ht))
  exact Nat.le_trans (Nat.le_add_left _ _) (Nat.le_of_eq h4.symm)
def RDiv (U:List Nat) (V:Nat) (qs:List Nat) (k rest:Nat):Prop:=qs.length=U.length∧Lims qs∧k≤U.length∧rest<V∧nval (U.drop k)=nval (qs.drop k)*V+rest∧∀p,p<k→qs.getD p 0=0
theorem rdiv_0 {U:List Nat} {V:Nat} (hV:V≠0):RDiv U V (List.replicate U.length 0) U.length 0:=by
  refine ⟨by simp,fun x hx=>?_,Nat.le_refl _,Nat.pos_of_ne_zero hV,?_,fun p _=>?_⟩
  · have:=(List.mem_replicate.1 hx).2;omega
  · rw [List.drop_length,List.drop_of_length_le (by simp)];simp [nval]
  · rw [List.getD_eq_getElem?_getD,List.getElem?_replicate];split <;> rfl
theorem rdiv_R {U qs:List Nat} {V k rest:Nat} (lU:Lims U) (hk:0<k) (h:RDiv U V qs k rest):U.getD (k-1) 0+4294967296*rest<V*4294967296:=by
  have:=getD_lt lU (k-1)
  have:=h.2.2.2.1
  omega
theorem rdiv_lt {U qs:List Nat} {V k rest:Nat} (hk:0<k) (h:RDiv U V qs k rest) (hR:U.getD (k-1) 0+4294967296*rest<V):RDiv U V qs (k-1) (U.getD (k-1) 0+4294967296*rest):=by
  obtain ⟨h1,h2,h3,h4,h5,h6⟩:=h
  refine ⟨h1,h2,by omega,hR,?_,fun p hp=>h6 p (by omega)⟩
  rw [nval_drop,nval_drop qs,show k-1+1=k from by omega,h5,h6 _ (by omega),Nat.zero_add,Nat.mul_assoc]
  omega
theorem rdiv_ge {U qs:List Nat} {V k rest g:Nat} (lU:Lims U) (hk:0<k) (h:RDiv U V qs k rest) (hg:g=(U.getD (k-1) 0+4294967296*rest)/V) (hgl:g<4294967296):RDiv U V (qs.set (k-1) g) (k-1) (U.getD (k-1) 0+4294967296*rest-V*g):=by
  obtain ⟨h1,h2,h3,h4,h5,h6⟩:=h
  have e1:=Nat.div_add_mod (U.getD (k-1) 0+4294967296*rest) V
  have e2:=Nat.mod_lt (U.getD (k-1) 0+4294967296*rest) (show V>0 by omega)
  rw [←hg] at e1
  refine ⟨by simpa using h1,h2.set hgl,by omega,by omega,?_,fun p hp=>?_⟩
  · rw [nval_drop,show k-1+1=k from by omega,h5,drop_set (by omega),nval,show k-1+1=k from by omega,Nat.add_mul,Nat.mul_assoc,Nat.mul_comm g V]
    omega
  · rw [getD_set_ne' (by omega)];exact h6 p (by omega)
theorem rdiv_end {a b s:Nat} {qs:List Nat} {k rest:Nat} (hk:k=0) (h:RDiv (limbs (a*2^s)) (b*2^s) qs k rest):nval qs=a/b∧rest/2^s=a%b:=by
  obtain ⟨h1,h2,h3,h4,h5,h6⟩:=h
  subst hk
  simp only [List.drop_zero,nval_limbs] at h5
  have hp:=Nat.two_pow_pos s
  have e1:nval qs=a*2^s/(b*2^s):=by
    rw [h5,Nat.mul_comm (nval qs),Nat.mul_add_div (by omega),Nat.div_eq_of_lt h4,Nat.add_zero]
  have e2:rest=a*2^s%(b*2^s):=by
    rw [h5,Nat.mul_comm (nval qs),Nat.mul_add_mod,Nat.mod_eq_of_lt h4]
  refine ⟨?_,?_⟩
  · rw [e1,Nat.mul_div_mul_right _ _ hp]
  · rw [e2,Nat.mul_mod_mul_right,Nat.mul_div_cancel _ hp]
theorem cmpI_gt {a b:Nat} (h:0<cmpI a b):b<a:=by
  unfold cmpI at h;split at h
  · omega
  · split at h
    · assumption
    · omega
theorem cmpI_ngt {a b:Nat} (h:¬0<cmpI a b):a≤b:=by
  unfold cmpI at h;split at h
  · omega
  · split at h <;> omega
end Fw
namespace Fw
open Go Go.Proofs
theorem c_ref01_small (l:List Nat) (d:Nat) (hd:d≠0) (hdl:d<4294967296):Fn Tryz.prog 254 [kN.is l,(kInt .u64).is (d:Int)] (VP.tup [kN.is (limbs (nval l/d)),(kInt .u64).is ((nval l%d:Nat):Int)]):=by
 refine aK Tryz.func254 E E fun m w=>aR (i:=0) E bu fun hB=>aR (i:=0) E ce fun hL=>Cr<|Wa E<|Wa E<|Wr<|Wm E<|Ws (aA E U27)<|bp l.length .n E E E (by omega) U27 bO dC fun v1=>Wa E<|Wr<|Wa E<|Wn<|aa<|aa ?_
 refine ah<|Wm E<|Ws (aA E U27)<|Ws (bq E E (c:=((l.length:Int)-1)) (ay (by omega)))<|Wa E<|Wn<|aw<|da (fun (row:List Nat) (i:Nat) (r:Nat)=>i≤l.length∧ShortR l row d i r) (fun (row:List Nat) (i:Nat) (r:Nat)=>[(0,kN.is l),(1,(kInt .u64).is (d:Int)),(6,VP.ex v1),(7,(kInt .u64).is (r:Int)),(8,kN6.is ((i:Int)-1))]) (fun (row:List Nat) (i:Nat) (r:Nat)=>[OB.row v1 93 kLimb row]) (fun (row:List Nat) (i:Nat) (r:Nat)=>i) (List.replicate l.length 0) l.length 0 ⟨Nat.le_refl _,shortR_0 hd⟩ (Z E (Z E (Z E (ao E (ag (y:=(0:Int)) (by omega)) (ao E (ag (y:=((l.length:Nat):Int)-1) (by omega)) ai))))) (au _) ?_
 intro row i r ⟨hi,hS⟩
 have hrl:=hS.2.1
 have hr:=hS.2.2.1
 have hx:=getD_lt hL (i-1)
 have hq:=short_q hr hx
 refine aa<|Cr<|Wm E<|Ws (cR E E)<|Wn ?_
 refine aB E (fun h_t16=>?_)<|fun h_t16=>?_
 ·
  refine Ck<|aa<|aw<|Cr<|Wm E<|Ws (dn E E (c:=((r*2^32:Nat):Int)) (bA (by omega)))<|Wm E<|Wm E<|Ws (aT (i-1) E E U27 aP (by omega) (v:=(l.getD (i-1) 0)) (gd 0 (by omega)))<|Ws (aV (aO E aP) (bQ _))<|Ws (bb E U93 U178 (c:=((l.getD (i-1) 0):Int)) (bA (by omega)))<|Ws (aI E E (c:=((r*2^32+l.getD (i-1) 0:Nat):Int)) (bA (by omega)))<|Wa E<|Wr<|Wm E<|Wm E<|Wm E<|Wm E<|Ws (dM E E (by omega) (c:=(((r*2^32+l.getD (i-1) 0)/d:Nat):Int)) (quoN d E E (by omega))) ?_
  refine Ws (bb E U178 U93 (c:=(((r*2^32+l.getD (i-1) 0)/d:Nat):Int)) (cN ⟨E,hq⟩))<|Ws (aY (k:=kLimb) (xs:=row) (n:=(i:Int)-1) (i-1) E E (ac 0 E) U27 aP (by omega) (by omega))<|aG .n (cd 0 (i-1) E E Li E (y0:=(row.getD (i-1) 0)) (gd 0 (by omega)) aP E (bF (x:=((r*2^32+l.getD (i-1) 0)/d:Nat)) (by omega)))<|Wn<|ah<|Wm E<|Wm E<|Ws (d5 E E (by omega) (c:=(((r*2^32+l.getD (i-1) 0)%d:Nat):Int)) (tmodN d E E))<|Wa E<|aj<|Qb<|ah<|Wm E<|Ws (bq E E (c:=(((i:Int)-1)-1)) (ay (by omega)))<|Wa E<|aj ?_
  exact cM (row.set (i-1) ((r*2^32+l.getD (i-1) 0)/d)) (i-1) ((r*2^32+l.getD (i-1) 0)%d) (by omega) ⟨by omega,shortR_s hL hdl (by omega) (by omega) hS⟩ (Z E (Z E (Z E (ao E (ag (y:=((((r*2^32+l.getD (i-1) 0)%d):Nat):Int)) (by omega)) (ao E (ag (y:=(((i-1):Nat):Int)-1) (by omega)) ai)))))<|aW<|OS.keepLe (a9 (by rfl)) OS.nil
 ·
  refine Ex<|Cr<|Wm E<|bJ 0 E (kp 0 E (kp 1 E (.hit (i:=6) E (kp 7 E (kp 8 E (kp 15 E (kp 16 E (.hit (i:=37) E .nil))))))))<|Ws (f1 dz E (dw row))<|Wm E<|Wa E<|Wa E<|Wn<|am<|tl 4 E (y:=(limbs (nval l/d))) (by rw [(shortR_end (by omega) hS).1])<|tl 5 E (y:=((nval l%d:Nat):Int)) (by rw [(shortR_end (by omega) hS).2]) ?_
  exact Qd E (ar E (ar E ak)) ⟨E,E⟩
theorem c_ref01_Two (n:Nat) (hn:n<32):Fn Tryz.prog 255 [kN6.is (n:Int)] (kN.is [2^n]):=by
 refine aK Tryz.func255 E E fun m w=>?_
 have hp:=(pow32 hn).2.1
 refine Cr<|Wa E<|Wr<|Wa E<|Wn<|aa<|Cr<|Wa E<|Wn<|aw<|ca 93 kLimb<|bX (fun (i:Nat) (v:Value)=>i=0) (fun (i:Nat) (v:Value)=>[(0,kN6.is (n:Int)),(3,VP.ex v),(4,kN6.is (i:Int))]) (fun (i:Nat) (v:Value)=>[OB.row v 93 kLimb []]) (fun (i:Nat) (v:Value)=>i) 0 (.slice none 0 0) E (Z E (Z E (ao E (ag (y:=(0:Int)) (by omega)) ai))) (au _) ?_
 intro i v hi
 refine aa<|Cr<|Wm E<|Wm E<|Ws (dM E E (by omega) (c:=0) (quo32 hn))<|Ws (aS E E)<|Wn ?_
 refine CN E (by omega) fun h_t8=>?_
 refine Ex<|Cr<|Wm E<|Wm E<|Ws (d5 E E (by omega) (c:=(n:Int)) (rem32 hn))<|Ws (bb E U3 U180 (c:=(n:Int)) (bA (by omega)))<|Ws (O.shl E E (by omega) (c:=((2^n:Nat):Int)) (shl1_32 hn E))<|Ws (bC U27 bO (bZ E (bF (x:=(2^n:Nat)) (by omega)) bw) E (by decide))<|bL 0 .n E E E Lr U27 bO (by simp) fun v1=>Wa E<|Wn<|am<|bJ 0 E (kp 0 E (.hit (i:=2) E (kp 3 E (kp 4 E (kp 5 E (kp 6 E (kp 7 E (kp 8 E (kp 14 E (kp 15 E (kp 16 E (kp 17 E (kp 18 E (kp 19 E (.hit (i:=20) E .nil))))))))))))))) ?_
 exact Qd E (cz E (ag (y:=[2^n]) (by rfl)) ak) ⟨E,E⟩
theorem c_ref01_Shr (l:List Nat) (n:Nat) (hn:n<32):Fn Tryz.prog 256 [kN.is l,kN6.is (n:Int)] (VP.tup [kN.is (limbs (nval l/2^n)),kN6.is 0]):=by
 refine aK Tryz.func256 E E fun m w=>aR (i:=0) E bu fun hB=>aR (i:=0) E ce fun hL=>Cr<|Wa E<|Wa E<|Wn<|aa<|Cr<|Wm E<|Ws (aS E E)<|Wn ?_
 refine CN E (by omega) fun h_t10=>?_
 refine Ck<|aa<|Cr<|Wm E<|Wm E<|Ws (f1 fn125 E (e9 l))<|Ws (cR E E)<|Wn ?_
 refine aB E (fun h_t14=>?_)<|fun h_t14=>?_
 ·
  refine Cr<|Wa E<|Wa E<|Wn<|am<|aQ<|cC (q:=kN.is ([]:List Nat)) 4 E (cL _)<|tl 4 E (y:=(limbs (nval l/2^n))) (by rw [Nat.div_eq_of_lt (Nat.lt_of_lt_of_le (lt_bitlen _) (Nat.pow_le_pow_right (by decide) (by omega))),limbs_zero]) ?_
  exact Qd E (ar E (ar E ak)) ⟨E,E⟩
 ·
  refine Ck<|Cr<|Wa E<|Wn<|aa<|Cr<|Wm E<|Ws (dM E E (by omega) (c:=0) (quo32 hn))<|Wa E<|Wn<|aw<|ca 93 kLimb<|bX (fun (r:List Nat) (v:Value)=>ShrR l r n) (fun (r:List Nat) (v:Value)=>[(0,kN.is l),(1,kN6.is (n:Int)),(5,kN6.is 0),(6,VP.ex v),(7,kN6.is (r.length:Int))]) (fun (r:List Nat) (v:Value)=>[OB.row v 93 kLimb r]) (fun (r:List Nat) (v:Value)=>l.length-r.length) [] (.slice none 0 0) (shrR_0 _ _) (af E E E E (ao E (ag (y:=([].length:Int)) (by rfl)) ai)) (au _) ?_
  intro r v hS
  have hi:=hS.1
  have hx:=getD_lt hL r.length
  have hy:=getD_lt hL (r.length+1)
  refine aa<|Cr<|Wm E<|Wm E<|Ws (aA E U27)<|Ws (aS E E)<|Wn ?_
  refine aB E (fun h_t20=>?_)<|fun h_t20=>?_
  ·
   refine Ck<|aa<|aw<|Cr<|Wm E<|Wm E<|Ws (aF dL (aX E (aq E (ag (y:=((r.length:Nat):Int)) (by omega)) ax)) (dH l r.length))<|Wm E<|Wm E<|Ws (aI E E (c:=((r.length:Int)+1)) (ay (by omega)))<|Ws (aF dL (aX E (aq E (ag (y:=(((r.length+1):Nat):Int)) (by omega)) ax)) (dH l (r.length+1)))<|Ws (dn E E (c:=((l.getD (r.length+1) 0:Int)*4294967296)) (bA (by omega)))<|Ws (aI E E (c:=((l.getD (r.length+1) 0*2^32+l.getD r.length 0:Nat):Int)) (bA (by omega)))<|Wa E<|Wn<|ah<|Wm E<|Wm E<|Wm E<|Ws (d5 E E (by omega) (c:=(n:Int)) (rem32 hn))<|Ws (bb E U3 U180 (c:=(n:Int)) (bA (by omega))) ?_
   refine Ws (cP E E (by omega) (c:=(((l.getD (r.length+1) 0*2^32+l.getD r.length 0)/2^n:Nat):Int)) (cQ n E E (show n≤64 by omega)))<|Ws (d5 E E (by omega) (c:=((((l.getD (r.length+1) 0*2^32+l.getD r.length 0)/2^n%4294967296):Nat):Int)) (tmodN 4294967296 E E))<|Ws (bb E U178 U93 (c:=((((l.getD (r.length+1) 0*2^32+l.getD r.length 0)/2^n%4294967296):Nat):Int)) (cN (by omega)))<|Ws (bC U27 bO (bZ E (bF (x:=(((l.getD (r.length+1) 0*2^32+l.getD r.length 0)/2^n%4294967296):Nat)) (by omega)) bw) E (by decide))<|bL 0 .n E E E Lr U27 bO (by simp;omega) fun v1=>Wa E<|aj<|Qb<|ah<|Wm E<|Ws (aI E E (c:=((r.length:Int)+1)) (ay (by omega)))<|Wa E<|aj ?_
   exact bP (r++[((l.getD (r.length+1) 0*2^32+l.getD r.length 0)/2^n%4294967296)]) v1 (by simp;omega) (shrR_s hL hn (by omega) hS) (af E E E E (ao E (ag (y:=((r++[((l.getD (r.length+1) 0*2^32+l.getD r.length 0)/2^n%4294967296)]).length:Int)) (by simp)) ai))<|aW<|OS.keepLe (a9 (by rfl)) OS.nil
  ·
   refine Ex<|Cr<|Wm E<|bJ 0 E (kp 0 E (kp 1 E (kp 5 E (.hit (i:=6) E (kp 7 E (kp 17 E (kp 18 E (kp 19 E (kp 20 E (.hit (i:=42) E .nil))))))))))<|Ws (f1 dz E (dw r))<|Wa E<|Wa E<|Wn<|am<|tl 4 E (y:=(limbs (nval l/2^n))) (by rw [shrR_end hL (by omega) hS]) ?_
   exact Qd E (ar E (ar E ak)) ⟨E,E⟩
set_option maxHeartbeats 4000000 in
theorem c_ref01_Div (a b:List Nat) (hA:a.length≤549755813000) (hB:b.length≤549755813000):Fn Tryz.prog 211 [kN.is a,kN.is b] (VP.tup [kN.is (limbs (nval a/nval b)),kN.is (if nval b=0 then [] else limbs (nval a%nval b)),kN6.is (if nval b=0 then 11 else 0)]):=by
 refine aK Tryz.func211 E E fun m w=>aR (i:=0) E ce fun la=>aR (i:=1) E ce fun lb=>?_
 have hlb:=limbs_len_le lb
 have lB:=limbs_lims (nval b)
 refine Cr<|Wa E<|Wa E<|Wa E<|Wr<|Wm E<|Ws (f1 dz E (dw b))<|Wa E<|Wn<|aa<|Cr<|Wm E<|Ws (aA E U27)<|Ws (bR E E)<|Wn ?_
 refine aB E (fun h_t24=>?_)<|fun h_t24=>?_
 ·
  have hb0:nval b=0:=limbs0 (by omega)
  refine Cr<|Wa E<|Wa E<|Wa E<|Wn<|am<|aQ<|cC (q:=kN.is ([]:List Nat)) 4 E (cL _)<|cC (q:=kN.is ([]:List Nat)) 5 E (cL _)<|tl 4 E (y:=(limbs (nval a/nval b))) (by rw [hb0,Nat.div_zero,limbs_zero])<|tl 5 E (y:=(if nval b=0 then [] else limbs (nval a%nval b))) (by rw [if_pos hb0])<|tl 6 E (y:=(if nval b=0 then 11 else 0)) (by rw [if_pos hb0]) ?_
  exact Qd E (ar E (ar E (ar E ak))) ⟨E,E⟩
 ·
  have hb0:nval b≠0:=fun h=>by rw [h,limbs_zero] at h_t24;exact h_t24 rfl
  have hlbp:=limbs_len_pos hb0
  refine Ck<|aa<|Cr<|Wm E<|Ws (aA E U27)<|Ws (bR E E)<|Wn ?_
  refine aB E (fun h_t27=>?_)<|fun h_t27=>?_
  ·
   refine aa ?_
   have hx0:=getD_lt lB 0
   refine ah<|Wm E<|Wm E<|Ws (aT 0 E E U27 aP E (v:=((limbs (nval b)).getD 0 0)) (gd 0 (by omega)))<|Ws (aV (aO E aP) (bQ _))<|Ws (bb E U93 U178 (c:=(((limbs (nval b)).getD 0 0):Int)) (bA (by omega)))<|Ws (aF fn254 (aX E (aq E (ag (y:=((((limbs (nval b)).getD 0 0):Nat):Int)) (by omega)) ax)) (c_ref01_small a ((limbs (nval b)).getD 0 0) (by rw [one_limb (by omega)];exact hb0) hx0))<|Wm E<|Ws (aH E E)<|Ws (aH E E)<|Wa E<|Wa E<|Wn<|aa ?_
   have hm:nval a%(limbs (nval b)).getD 0 0<4294967296:=Nat.lt_of_lt_of_le (Nat.mod_lt _ (by rw [one_limb (by omega)];omega)) (Nat.le_of_lt hx0)
   refine ah<|Wm E<|Wm E<|Ws (bb E U178 U93 (c:=((nval a%(limbs (nval b)).getD 0 0:Nat):Int)) (cN ⟨E,hm⟩))<|Ws (bC U27 bO (bZ E (bF (x:=(nval a%(limbs (nval b)).getD 0 0:Nat)) (by omega)) bw) E (by decide))<|Ws (f1 dz E (dw [(nval a%(limbs (nval b)).getD 0 0:Nat)]))<|Wa E<|Wa E<|Wa E<|Wn<|am<|aQ<|tl 4 E (y:=(limbs (nval a/nval b))) (by rw [one_limb (by omega)])<|tl 5 E (y:=(if nval b=0 then [] else limbs (nval a%nval b))) (by rw [if_neg hb0,one_limb (by omega)];simp [nval])<|tl 6 E (y:=(if nval b=0 then 11 else 0)) (by rw [if_neg hb0]) ?_
   exact Qd E (ar E (ar E (ar E ak))) ⟨E,E⟩
  ·
   refine Ck<|aa ?_
   obtain ⟨s,hsv,hs,hvl⟩:=div_sh hb0
   have hV0:(nval b*2^s)≠0:=Nat.mul_ne_zero hb0 (Nat.ne_of_gt (Nat.two_pow_pos s))
   have lU:=limbs_lims (nval a*2^s)
   have hbl:=bits_limbs hb0
   have hbl3:bitlen (nval (limbs (nval b)))=32*((limbs (nval b)).length-1)+bitlen ((limbs (nval b)).getD ((limbs (nval b)).length-1) 0):=by rw [nval_limbs];exact hbl
   have htop:=limbs_top hV0
   refine ah<|Wm E<|Ws (aA E U27)<|Ws (dn E E (c:=(32*((limbs (nval b)).length:Int))) (ay (by omega)))<|Wm E<|Ws (f1 fn125 E (e9 (limbs (nval b))))<|Ws (bq E E (c:=((32*((limbs (nval b)).length:Int))-(bitlen (nval (limbs (nval b))):Int))) (ay (by omega)))<|tl 47 E (y:=(s:Int)) (by rw [nval_limbs];omega)<|Ws (f1 fn255 E (c_ref01_Two s hs))<|Wa E<|Wr<|Wm E<|Wm E<|Ws (f2 fn199 E E (eQ a [2^s] (by simp;omega)))<|Wa E<|Wn<|aa<|tl 11 E (y:=limbs (nval a*2^s)) (by simp [nval])<|ah<|Wm E ?_
   refine Wm E<|Ws (f2 fn199 E E (eQ (limbs (nval b)) [2^s] (by simp;omega)))<|Wa E<|Wn<|aa<|tl 12 E (y:=(limbs (nval b*2^s))) (by rw [nval_limbs];simp [nval])<|aR (i:=11) E bu fun hUB=>ah<|Wm E<|Ws (aA E U27)<|bp ((limbs (nval a*2^s)).length) .n E E E (by omega) U27 bO dC fun v1=>Wa E<|Wr<|Wa E<|Wn<|aa<|Cr<|Wm E ?_
   refine Ws (aA E U27)<|Ws (bq E E (c:=(((limbs (nval a*2^s)).length:Int)-1)) (ay (by omega)))<|Wa E<|Wn<|aw<|cC (q:=kN.is ([]:List Nat)) 14 E (cL _)<|tl 14 E (y:=(limbs 0)) (by rw [limbs_zero])<|CW.loop4 (fun (qs:List Nat) (k:Nat) (rest:Nat) (vq:Value)=>RDiv (limbs (nval a*2^s)) (nval b*2^s) qs k rest) (fun (qs:List Nat) (k:Nat) (rest:Nat) (vq:Value)=>[(7,kN.is (limbs (nval b))),(11,kN.is (limbs (nval a*2^s))),(12,kN.is (limbs (nval b*2^s))),(13,VP.ex vq),(14,kN.is (limbs rest)),(15,kN6.is ((k:Int)-1))]) (fun (qs:List Nat) (k:Nat) (rest:Nat) (vq:Value)=>[OB.row vq 93 kLimb qs]) (fun (qs:List Nat) (k:Nat) (rest:Nat) (vq:Value)=>k) (List.replicate (limbs (nval a*2^s)).length 0) ((limbs (nval a*2^s)).length) 0 v1 (rdiv_0 hV0) (af E E E E (Z E (ao E (ag (y:=((((limbs (nval a*2^s)).length):Nat):Int)-1) (by omega)) ai))) (aW (OS.keepLe (a9 (by rfl)) OS.nil)) ?_
   intro qs k rest vq hD
   have hrl:=limbs_mono (Nat.le_of_lt hD.2.2.2.1)
   have hql:=hD.1
   have hk:=hD.2.2.1
   have hx:=getD_lt lU (k-1)
   refine aa<|Cr<|Wm E<|Ws (cR E E)<|Wn ?_
   refine aB E (fun h_t62=>?_)<|fun h_t62=>?_
   ·
    refine Ck<|aa<|aw<|Cr<|Wm E<|Wm E<|Ws (aT (k-1) E E U27 aP (by omega) (v:=((limbs (nval a*2^s)).getD (k-1) 0)) (gd 0 (by omega)))<|Ws (aV (aO E aP) (bQ _))<|WP.bso .n U27 bO (bZ E (bF (x:=((limbs (nval a*2^s)).getD (k-1) 0)) (by omega)) bw) E (by decide) fun v2=>Wm E<|bL 0 .n E E E Lr U27 bO (by simp;omega) fun v3=>bJ 0 E (kp 7 E (kp 11 E (kp 12 E (kp 13 E (kp 14 E (kp 15 E (kp 61 E (kp 62 E (kp 65 E (kp 66 E (kp 67 E (kp 68 E (kp 69 E (kp 70 E (.hit (i:=71) E .nil)))))))))))))))<|Ws (f1 dz E (dw ([((limbs (nval a*2^s)).getD (k-1) 0)]++limbs rest)))<|Wa E<|Wn<|aa<|aa ?_
    obtain ⟨R,hR⟩:∃R,R=(limbs (nval a*2^s)).getD (k-1) 0+4294967296*rest:=⟨_,rfl⟩
    refine tl 14 E (y:=(limbs R)) (by rw [hR];simp [nval,nval_limbs]) ?_
    have hRV:R<(nval b*2^s)*4294967296:=by rw [hR];exact rdiv_R lU (by omega) hD
    refine ah<|Wm E<|Wm E<|Ws (f2 fn197 E E (eR (limbs R) (limbs (nval b*2^s))))<|Ws (aS E E)<|Wn ?_
    refine aB E (fun h_t76=>?_)<|fun h_t76=>?_
    ·
     refine du<|cS<|dr<|bS<|ah<|Wm E<|Ws (bq E E (c:=(((k:Int)-1)-1)) (ay (by omega)))<|Wa E<|aj ?_
     exact eU qs (k-1) R vq (by omega) (by rw [hR];exact rdiv_lt (by omega) hD (by rw [←hR];have:=cmpI_lt h_t76;rwa [nval_limbs,nval_limbs] at this)) (af E E E E (Z E (ao E (ag (y:=(((k-1):Nat):Int)-1) (by omega)) ai)))<|au _
    ·
     refine Ck<|aa ?_
     have hr1:=getD_lt (limbs_lims R) (limbs (nval b*2^s)).length
     have hr2:=getD_lt (limbs_lims R) ((limbs (nval b*2^s)).length-1)
     have hr3:=getD_lt (limbs_lims (nval b*2^s)) ((limbs (nval b*2^s)).length-1)
     refine ah<|Wm E<|Wm E<|Ws (aA E U27)<|Ws (aF dL (aX E (aq E (ag (y:=((((limbs (nval b*2^s)).length):Nat):Int)) (by omega)) ax)) (dH (limbs R) ((limbs (nval b*2^s)).length)))<|Ws (dn E E (c:=(((limbs R).getD ((limbs (nval b*2^s)).length) 0:Int)*4294967296)) (bA (by omega)))<|Wm E<|Wm E<|Ws (aA E U27)<|Ws (bq E E (c:=(((limbs (nval b*2^s)).length:Int)-1)) (ay (by omega)))<|Ws (aF dL (aX E (aq E (ag (y:=((((limbs (nval b*2^s)).length-1):Nat):Int)) (by omega)) ax)) (dH (limbs R) ((limbs (nval b*2^s)).length-1)))<|Ws (aI E E (c:=((((limbs R).getD ((limbs (nval b*2^s)).length) 0:Int)*4294967296)+((limbs R).getD ((limbs (nval b*2^s)).length-1) 0:Int))) (bA (by omega)))<|Wm E<|Wm E<|Ws (aA E U27)<|Ws (bq E E (c:=(((limbs (nval b*2^s)).length:Int)-1)) (ay (by omega)))<|Ws (aF dL (aX E (aq E (ag (y:=((((limbs (nval b*2^s)).length-1):Nat):Int)) (by omega)) ax)) (dH (limbs (nval b*2^s)) ((limbs (nval b*2^s)).length-1)))<|Ws (dM E E (by omega) (c:=((((limbs R).getD (limbs (nval b*2^s)).length 0*4294967296+(limbs R).getD ((limbs (nval b*2^s)).length-1) 0)/(limbs (nval b*2^s)).getD ((limbs (nval b*2^s)).length-1) 0:Nat):Int)) (quoN ((limbs (nval b*2^s)).getD ((limbs (nval b*2^s)).length-1) 0) (by omega) E (by omega)))<|Wa E<|Wn<|aa<|aa ?_
     obtain ⟨G,hG⟩:∃G,G=((limbs R).getD (limbs (nval b*2^s)).length 0*4294967296+(limbs R).getD ((limbs (nval b*2^s)).length-1) 0)/(limbs (nval b*2^s)).getD ((limbs (nval b*2^s)).length-1) 0:=⟨_,rfl⟩
     refine tl 16 E (y:=(G:Int)) (by rw [hG]) ?_
     have hGq:R/(nval b*2^s)≤G:=by rw [hG];exact rdiv_top rfl hV0 hRV
     have hQ:R/(nval b*2^s)<4294967296:=(Nat.div_lt_iff_lt_mul (Nat.pos_of_ne_zero hV0)).2 (by rw [Nat.mul_comm];exact hRV)
     refine ah<|Wm E<|Ws (cR E E)<|Wn ?_
     refine aB E (fun h_t95=>?_)<|fun h_t95=>?_
     ·
      refine ah<|Wa E<|Wn<|aa ?_
      obtain ⟨g,hgd⟩:∃g,g=4294967295:=⟨_,rfl⟩
      refine tl 16 E (y:=(g:Int)) (by rw [hgd];rfl) ?_
      have hgl:g<4294967296:=by omega
      have hgq:R/(nval b*2^s)≤g:=by omega
      refine ah<|Wm E<|Wm E<|Ws (bb E U178 U93 (c:=(g:Int)) (cN (by omega)))<|Ws (bC U27 bO (bZ E (bF (x:=g) (by omega)) bw) E (by decide))<|Ws (f2 fn199 E E (eQ (limbs (nval b*2^s)) [g] (by simp;omega)))<|Wa E<|Wn<|aa<|aw<|tl 17 E (y:=(limbs ((nval b*2^s)*g))) (by rw [nval_limbs];simp [nval])<|bN (fun (g:Nat)=>R/(nval b*2^s)≤g∧g<4294967296) (fun (g:Nat)=>[(7,kN.is (limbs (nval b))),(11,kN.is (limbs (nval a*2^s))),(12,kN.is (limbs (nval b*2^s))),(13,VP.ex vq),(14,kN.is (limbs R)),(15,kN6.is ((k:Int)-1)),(16,(kInt .u64).is (g:Int)),(17,kN.is (limbs ((nval b*2^s)*g)))]) (fun (g:Nat)=>[OB.row vq 93 kLimb qs]) (fun (g:Nat)=>g) g ⟨hgq,hgl⟩ (af E E E E (Z E (Z E (Z E (Z E ai))))) (au _) ?_
      intro g hg
      have hg2:=hg.2
      refine aa<|Cr<|Wm E<|Wm E<|Ws (f2 fn197 E E (eR (limbs ((nval b*2^s)*g)) (limbs R)))<|Ws (cq E E)<|Wn ?_
      refine aB E (fun h_t104=>?_)<|fun h_t104=>?_
      ·
       refine Ck<|aw<|aa ?_
       have hgt:R<(nval b*2^s)*g:=by have:=cmpI_gt h_t104;rwa [nval_limbs,nval_limbs] at this
       have hg0:R/(nval b*2^s)<g:=(Nat.div_lt_iff_lt_mul (Nat.pos_of_ne_zero hV0)).2 (by rw [Nat.mul_comm];exact hgt)
       have hg1:1≤g:=Nat.lt_of_le_of_lt (Nat.zero_le _) hg0
       refine ah<|Wm E<|Ws (bq E E (c:=((g-1:Nat):Int)) (bA (by omega)))<|Wa E<|Wn<|ah<|Wm E<|Wm E<|Ws (f2 fn247 E E (eN (limbs ((nval b*2^s)*g)) (limbs (nval b*2^s)) (by rw [nval_limbs,nval_limbs];exact Nat.le_mul_of_pos_right _ (by omega))))<|Wa E<|aj<|dq<|tl 17 E (y:=(limbs ((nval b*2^s)*(g-1)))) (by rw [nval_limbs,nval_limbs,Nat.mul_sub,Nat.mul_one]) ?_
       exact bG (g-1) (by omega) ⟨by omega,by omega⟩ (af E E E E (Z E (Z E (ao E (ag (y:=(((g-1):Nat):Int)) (by omega)) (Z E ai)))))<|au _
      ·
       refine Ex<|aa ?_
       have hle:(nval b*2^s)*g≤R:=by have:=cmpI_ngt h_t104;rwa [nval_limbs,nval_limbs] at this
       have hgR:g=R/(nval b*2^s):=Nat.le_antisymm ((Nat.le_div_iff_mul_le (Nat.pos_of_ne_zero hV0)).2 (by rw [Nat.mul_comm];exact hle)) hg.1
       refine ah<|Wm E<|Wm E<|Wm E<|Ws (bb E U178 U93 (c:=(g:Int)) (cN (by omega)))<|Ws (aY (k:=kLimb) (xs:=qs) (n:=(k:Int)-1) (k-1) E E (ac 0 E) U27 aP (by omega) (by omega))<|aG .n (cd 0 (k-1) E E Li E (y0:=(qs.getD (k-1) 0)) (gd 0 (by omega)) aP E (bF (x:=g) (by omega)))<|Wn<|ah<|Wm E<|Wm E<|Ws (f2 fn247 E E (eN (limbs R) (limbs ((nval b*2^s)*g)) (by rw [nval_limbs,nval_limbs];exact hle)))<|Wa E<|aj<|Qb<|ah<|Wm E<|Ws (bq E E (c:=(((k:Int)-1)-1)) (ay (by omega)))<|Wa E<|aj<|tl 14 E (y:=(limbs (R-(nval b*2^s)*g))) (by rw [nval_limbs,nval_limbs]) ?_
       exact eU (qs.set (k-1) g) (k-1) (R-(nval b*2^s)*g) vq (by omega) (by rw [hR];exact rdiv_ge lU (by omega) hD (by rw [←hR];exact hgR) hg.2) (af E E E E (Z E (ao E (ag (y:=(((k-1):Nat):Int)-1) (by omega)) ai)))<|au _
     ·
      refine Ck<|aa ?_
      obtain ⟨g,hgd⟩:∃g,g=G:=⟨_,rfl⟩
      refine tl 16 E (y:=(g:Int)) (by rw [hgd]) ?_
      have hgl:g<4294967296:=by omega
      have hgq:R/(nval b*2^s)≤g:=by omega
      refine ah<|Wm E<|Wm E<|Ws (bb E U178 U93 (c:=(g:Int)) (cN (by omega)))<|Ws (bC U27 bO (bZ E (bF (x:=g) (by omega)) bw) E (by decide))<|Ws (f2 fn199 E E (eQ (limbs (nval b*2^s)) [g] (by simp;omega)))<|Wa E<|Wn<|aa<|aw<|tl 17 E (y:=(limbs ((nval b*2^s)*g))) (by rw [nval_limbs];simp [nval])<|bN (fun (g:Nat)=>R/(nval b*2^s)≤g∧g<4294967296) (fun (g:Nat)=>[(7,kN.is (limbs (nval b))),(11,kN.is (limbs (nval a*2^s))),(12,kN.is (limbs (nval b*2^s))),(13,VP.ex vq),(14,kN.is (limbs R)),(15,kN6.is ((k:Int)-1)),(16,(kInt .u64).is (g:Int)),(17,kN.is (limbs ((nval b*2^s)*g)))]) (fun (g:Nat)=>[OB.row vq 93 kLimb qs]) (fun (g:Nat)=>g) g ⟨hgq,hgl⟩ (af E E E E (Z E (Z E (Z E (Z E ai))))) (au _) ?_
      intro g hg
      have hg2:=hg.2
      refine aa<|Cr<|Wm E<|Wm E<|Ws (f2 fn197 E E (eR (limbs ((nval b*2^s)*g)) (limbs R)))<|Ws (cq E E)<|Wn ?_
      refine aB E (fun h_t104=>?_)<|fun h_t104=>?_
      ·
       refine Ck<|aw<|aa ?_
       have hgt:R<(nval b*2^s)*g:=by have:=cmpI_gt h_t104;rwa [nval_limbs,nval_limbs] at this
       have hg0:R/(nval b*2^s)<g:=(Nat.div_lt_iff_lt_mul (Nat.pos_of_ne_zero hV0)).2 (by rw [Nat.mul_comm];exact hgt)
       have hg1:1≤g:=Nat.lt_of_le_of_lt (Nat.zero_le _) hg0
       refine ah<|Wm E<|Ws (bq E E (c:=((g-1:Nat):Int)) (bA (by omega)))<|Wa E<|Wn<|ah<|Wm E<|Wm E<|Ws (f2 fn247 E E (eN (limbs ((nval b*2^s)*g)) (limbs (nval b*2^s)) (by rw [nval_limbs,nval_limbs];exact Nat.le_mul_of_pos_right _ (by omega))))<|Wa E<|aj<|dq<|tl 17 E (y:=(limbs ((nval b*2^s)*(g-1)))) (by rw [nval_limbs,nval_limbs,Nat.mul_sub,Nat.mul_one]) ?_
       exact bG (g-1) (by omega) ⟨by omega,by omega⟩ (af E E E E (Z E (Z E (ao E (ag (y:=(((g-1):Nat):Int)) (by omega)) (Z E ai)))))<|au _
      ·
       refine Ex<|aa ?_
       have hle:(nval b*2^s)*g≤R:=by have:=cmpI_ngt h_t104;rwa [nval_limbs,nval_limbs] at this
       have hgR:g=R/(nval b*2^s):=Nat.le_antisymm ((Nat.le_div_iff_mul_le (Nat.pos_of_ne_zero hV0)).2 (by rw [Nat.mul_comm];exact hle)) hg.1
       refine ah<|Wm E<|Wm E<|Wm E<|Ws (bb E U178 U93 (c:=(g:Int)) (cN (by omega)))<|Ws (aY (k:=kLimb) (xs:=qs) (n:=(k:Int)-1) (k-1) E E (ac 0 E) U27 aP (by omega) (by omega))<|aG .n (cd 0 (k-1) E E Li E (y0:=(qs.getD (k-1) 0)) (gd 0 (by omega)) aP E (bF (x:=g) (by omega)))<|Wn<|ah<|Wm E<|Wm E<|Ws (f2 fn247 E E (eN (limbs R) (limbs ((nval b*2^s)*g)) (by rw [nval_limbs,nval_limbs];exact hle)))<|Wa E<|aj<|Qb<|ah<|Wm E<|Ws (bq E E (c:=(((k:Int)-1)-1)) (ay (by omega)))<|Wa E<|aj<|tl 14 E (y:=(limbs (R-(nval b*2^s)*g))) (by rw [nval_limbs,nval_limbs]) ?_
       exact eU (qs.set (k-1) g) (k-1) (R-(nval b*2^s)*g) vq (by omega) (by rw [hR];exact rdiv_ge lU (by omega) hD (by rw [←hR];exact hgR) hg.2) (af E E E E (Z E (ao E (ag (y:=(((k-1):Nat):Int)-1) (by omega)) ai)))<|au _
   ·
    refine Ex<|Cr<|Wm E<|Wm E<|Ws (aA E U27)<|Ws (dn E E (c:=(32*((limbs (nval b)).length:Int))) (ay (by omega)))<|Wm E<|Ws (f1 fn125 E (e9 (limbs (nval b))))<|Ws (bq E E (c:=((32*((limbs (nval b)).length:Int))-(bitlen (nval (limbs (nval b))):Int))) (ay (by omega)))<|tl 125 E (y:=(s:Int)) (by rw [nval_limbs];omega)<|Ws (f2 fn256 E E (c_ref01_Shr (limbs rest) s hs))<|Wm E<|Ws (aH E E)<|Ws (aH E E)<|Wa E<|Wa E<|Wn<|aa ?_
    refine ah<|Wm E<|bJ 0 E (kp 7 E (kp 11 E (kp 12 E (.hit (i:=13) E (kp 14 E (kp 15 E (kp 18 E (kp 19 E (kp 61 E (kp 62 E (kp 118 E (kp 119 E (kp 120 E (kp 121 E (kp 122 E (kp 123 E (kp 124 E (kp 125 E (kp 126 E (kp 127 E (kp 128 E (.hit (i:=129) E .nil))))))))))))))))))))))<|Ws (f1 dz E (dw qs))<|Wm E<|Wa E<|Wa E<|Wa E<|Wn<|am ?_
    have hend:=rdiv_end (by omega) hD
    refine tl 4 E (y:=(limbs (nval a/nval b))) (by rw [hend.1])<|tl 5 E (y:=(if nval b=0 then [] else limbs (nval a%nval b))) (by rw [if_neg hb0,nval_limbs,hend.2])<|tl 6 E (y:=(if nval b=0 then 11 else 0)) (by rw [if_neg hb0]) ?_
    exact Qd E (ar E (ar E (ar E ak))) ⟨E,E⟩
abbrev fc:=@c_ref01_Div
theorem c_ref01_Gcd (a b:List Nat) (hA:a.length≤549755813000) (hB:b.length≤549755813000):Fn Tryz.prog 210 [kN.is a,kN.is b] (kN.is (limbs (Nat.gcd (nval a) (nval b)))):=by
 refine aK Tryz.func210 E E fun m w=>aR (i:=0) E ce fun la=>aR (i:=1) E ce fun lb=>?_
 have hla:=limbs_len_le la
 have hlb:=limbs_len_le lb
 refine Cr<|Wa E<|Wr<|Wm E<|Ws (f1 dz E (dw a))<|Wa E<|Wr<|Wm E<|Ws (f1 dz E (dw b))<|Wa E<|Wn<|aa<|aw<|bX (fun (x:Nat) (y:Nat)=>Nat.gcd x y=Nat.gcd (nval a) (nval b)∧(limbs x).length≤549755813000∧(limbs y).length≤549755813000) (fun (x:Nat) (y:Nat)=>[(5,kN.is (limbs x)),(6,kN.is (limbs y))]) (fun (x:Nat) (y:Nat)=>[]) (fun (x:Nat) (y:Nat)=>y) (nval a) (nval b) ⟨E,by omega,by omega⟩ (Z E (Z E ai)) (au _) ?_
 intro x y ⟨hg,hx,hy⟩
 refine aa<|Cr<|Wm E<|Ws (aA E U27)<|Ws (cq E E)<|Wn ?_
 refine aB E (fun h_t16=>?_)<|fun h_t16=>?_
 ·
  have hy0:y≠0:=fun h=>by rw [h,limbs_zero] at h_t16;simp at h_t16
  refine Ck<|aw<|Cr<|Wm E<|Wm E<|Ws (f2 fn211 E E (fc (limbs x) (limbs y) (by omega) (by omega)))<|Wm E<|Ws (aH E E)<|Ws (aH E E)<|Ws (aH E E)<|Wa E<|Wa E<|Wa E<|Wr<|Wm E<|Wa E<|Wn<|ah ?_
  refine Wm E<|Wa E<|aj<|dq<|tl 6 E (y:=(limbs (x%y))) (by rw [nval_limbs,nval_limbs,if_neg hy0]) ?_
  exact bP y (x%y) (by exact Nat.mod_lt _ (Nat.pos_of_ne_zero hy0)) ⟨by rw [←hg,Nat.gcd_comm x y,Nat.gcd_rec y x,Nat.gcd_comm],hy,Nat.le_trans (limbs_mono (Nat.le_of_lt (Nat.mod_lt _ (Nat.pos_of_ne_zero hy0)))) hy⟩ (Z E (Z E ai))<|au _
 ·
  refine Ex<|Cr<|Wm E<|Wa E<|Wn<|am ?_
  have hy0:y=0:=limbs0 (by omega)
  refine tl 4 E (y:=(limbs (Nat.gcd (nval a) (nval b)))) (by rw [←hg,hy0,Nat.gcd_zero_right]) ?_
  exact Qd E (ar E ak) ⟨E,E⟩
set_option maxHeartbeats 8000000 in
theorem c_zint_Floor (x y:Int):Fn Tryz.prog 214 [kZ.is x,kZ.is y] (VP.tup [kC.is (x.fdiv y),kC.is (if y=0 then 0 else x.fmod y),kN6.is (if y=0 then 11 else 0)]):=by
 refine aK Tryz.func214 E E fun m w=>aR (i:=0) E dF fun hsx=>cG 0 E fun p p_v p_n p_l=>cG 1 E fun q q_v q_n q_l=>Cr<|a6 .n E fun b1=>a6 .n E fun b2=>a8 .n aZ fun b3=>a8 .n aZ fun b4=>Wa E<|Wr<|Ws (aM E bK E)<|Ws (ae E (ac 3 E) (aN Li) bM E)<|Ws (aM E bK E)<|Ws (ae E (ac 2 E) (aN Li) bM E)<|Ws (f2 fn257 E E (c_nat_Div p.2 q.2 (by omega) (by omega)))<|Wm E<|Ws (aH E E)<|Ws (aH E E)<|Ws (aH E E) ?_
 refine Wa E<|Wa E<|Wa E<|Wn<|aa<|Cr<|Wm E<|Ws (bt E E)<|Wn ?_
 refine aB E (fun h_t22=>?_)<|fun h_t22=>?_
 ·
  have hq0:nval q.2=0:=by by_cases h:nval q.2=0;exact h;simp [h] at h_t22
  have hy:y=0:=by rw [←q_v,ival0 hq0]
  refine Cr<|Ws (cH dR E bH (.nil _))<|Ws (cH dR E bH (.nil _))<|aG .n (aD (l:=kC) (u:=0) 1 E E E ab E Lr)<|aG .n (aD (l:=kC) (u:=0) 0 E E E ab E Lr)<|Wa E<|Wn<|am<|aQ<|tb 1 E (y:=(x.fdiv y)) (by rw [hy,Int.fdiv_zero])<|tb 0 E (y:=(if y=0 then 0 else x.fmod y)) (by rw [if_pos hy])<|tl 6 E (y:=(if y=0 then 11 else 0)) (by rw [if_pos hy]) ?_
  exact Qd E (a5 E (ac 1 E) ab (a5 E (ac 0 E) ab (ar E ak))) ⟨E,E⟩
 ·
  have hq0:nval q.2≠0:=fun h=>by simp [h] at h_t22
  have hy:y≠0:=fun h=>by rw [←q_v] at h;have:=ival_abs q;rw [h] at this;exact hq0 this.symm
  refine Ck<|aa ?_
  refine ba (Γ:=[.fr (VP.pt b1 0),.fr (kBool.is p.1),.fr (VP.pt b2 0),.fr (kBool.is q.1),.fr (kBool.is (decide (p.1≠q.1))),.fr (kN.is (limbs (nval p.2/nval q.2))),.fr (kC.is (ival ((decide (p.1≠q.1)),(limbs (nval p.2/nval q.2))))),.fr (VP.pt b1 0),.fr (kBool.is p.1),.fr (kN.is (if nval q.2=0 then [] else limbs (nval p.2%nval q.2))),.fr (kC.is (ival (p.1,(if nval q.2=0 then [] else limbs (nval p.2%nval q.2))))),.al (fun b=>OB.box b 29 kC 0),.al (fun b=>OB.box b 29 kC 0)]) (J E (fun N=>aM E cw E) (J E (fun N=>ae E (mN N 3 E) (aU Li) cy E) (J E (fun N=>aM E cw E) (J E (fun N=>ae E (mN N 2 E) (aU Li) cy E) (J E (fun N=>O.neB E E U4) (om E E (J E (fun N=>f2 dG E E (dB (decide (p.1≠q.1)) (limbs (nval p.2/nval q.2)))) (J E (fun N=>aM E cw E) (J E (fun N=>ae E (mN N 3 E) (aU Li) cy E) (om E E (J E (fun N=>f2 dG E E (dB p.1 (if nval q.2=0 then [] else limbs (nval p.2%nval q.2)))) (oc (dA E aZ) (oc (dA E aZ) oz)))))))))))))<|fun σ=>?_
  refine aG .n (aD (l:=kC) (u:=ival ((decide (p.1≠q.1)),(limbs (nval p.2/nval q.2)))) 0 E E E ab E Lr)<|aG .n (aD (l:=kC) (u:=ival (p.1,(if nval q.2=0 then [] else limbs (nval p.2%nval q.2)))) 1 E E E ab E Lr)<|Wn<|aa<|aa ?_
  obtain ⟨M,hM⟩:∃M,M=ival (decide (p.1≠q.1),limbs (nval p.2/nval q.2)):=⟨_,rfl⟩
  obtain ⟨R,hR⟩:∃R,R=ival (p.1,if nval q.2=0 then [] else limbs (nval p.2%nval q.2)):=⟨_,rfl⟩
  refine tb 0 E (y:=M) hM.symm<|tb 1 E (y:=R) hR.symm ?_
  have hx:x=M*y+R:=by rw [←p_v,←q_v,hM,hR];exact div_split hq0
  have hl:R.natAbs<y.natAbs:=by rw [←q_v,hR];exact rem_lt hq0
  have hsM:Sm M:=Sm_le hsx (by rw [hM,←p_v,ival_abs,ival_abs,nval_limbs];exact Nat.div_le_self _ _)
  have hsR:Sm R:=Sm_le hsx (by rw [hR,←p_v,ival_abs,ival_abs,if_neg hq0,nval_limbs];exact Nat.mod_le _ _)
  have hs1:Sm 1:=Sm_lit (by decide)
  by_cases h5:R.sign≠0
  ·
   refine ba (Γ:=[.fr (kC.is R),.fr (kN6.is R.sign),.fr (kBool.is true),.fr (kBool.is true),.fr (kC.is R),.fr (kN6.is R.sign),.fr (kI.is (q.1,q.2)),.fr (kN6.is ((ival (q.1,q.2)).sign)),.fr (kBool.is (decide (R.sign≠((ival (q.1,q.2)).sign)))),.fr (kBool.is (decide (R.sign≠((ival (q.1,q.2)).sign))))]) (J E (fun N=>ae E (mN N 1 E) Li ab E) (J E (fun N=>aF dp (aq E (aJ (by assumption)) ax) (dk R)) (J E (fun N=>aV (bt E E) (ag (by simp [h5]))) (om E E (oc (cJ E (.g E E) fun N=>(ae E (mN N 1 E) Li ab E)) (oc (cJ E (.g E E) fun N=>(aF dp (aq E (aJ (by assumption)) ax) (dk R))) (oc (cJ E (.g E E) fun N=>(ae E (mN N 4 E) Li ab E)) (oc (cJ E (.g E E) fun N=>(aF dp (aq E (kI_Z E (by omega)) ax) (dk (ival (q.1,q.2))))) (oc (cJ E (.g E E) fun N=>(bt E E)) (J E (fun N=>ch E E) oz))))))))))<|fun σ=>?_
   refine Wn ?_
   refine aB E (fun h_t45=>?_)<|fun h_t45=>?_
   ·
    refine ba (Γ:=[.fr (kC.is M),.fr (kC.is 1),.fr (kC.is (M-1)),.fr (kC.is R),.fr (kI.is (q.1,q.2)),.fr (kC.is (R+(ival (q.1,q.2))))]) (J E (fun N=>ae E (mN N 0 E) Li ab E) (J E (fun N=>aF fn71 (aq E (cD (by omega)) ax) (d8 1)) (J E (fun N=>aF fn213 (aq E (aJ (by assumption)) (aq E (aJ (by assumption)) ax)) (ff M 1)) (J E (fun N=>ae E (mN N 1 E) Li ab E) (J E (fun N=>ae E (mN N 4 E) Li ab E) (J E (fun N=>aF dU (aq E (aJ (by assumption)) (aq E (kI_Z E (by omega)) ax)) (dP R (ival (q.1,q.2)))) oz))))))<|fun σ=>?_
    refine aG .n (aD (l:=kC) (u:=M-1) 0 E E E ab E Lr)<|aG .n (aD (l:=kC) (u:=R+(ival (q.1,q.2))) 1 E E E ab E Lr)<|Wn<|aa<|dy (by kernel_rfl) ?_
    refine bv 0 [1] ⟨?_,⟨?_,trivial⟩⟩
    ·
     refine aC E .n (ae E (ac 0 E) Li ab E) ?_
     refine bv 1 [2] ⟨?_,⟨?_,trivial⟩⟩
     ·
      refine aC E .n (ae E (ac 1 E) Li ab E)<|az 2<|bg E .n (aD (l:=kC) (u:=M-1) 3 E E E ab E Lr)<|az 3<|bg E .n (aD (l:=kC) (u:=R+(ival (q.1,q.2))) 2 E E E ab E Lr)<|az 4<|aC E .n (a7 E)<|bc (by kernel_rfl)<|bS<|am ?_
      have hf:=floor_2 hx hl h5 (by rw [←q_v];exact h_t45)
      refine tb 3 E (y:=(x.fdiv y)) hf.1<|tb 2 E (y:=(if y=0 then 0 else x.fmod y)) (by rw [if_neg hy,q_v];exact hf.2)<|tl 6 E (y:=(if y=0 then 11 else 0)) (by rw [if_neg hy]) ?_
      exact Qd E (a5 E (ac 3 E) ab (a5 E (ac 2 E) ab (ar E ak))) ⟨E,E⟩
     ·
      refine bg E .n (aD (l:=kC) (u:=M-1) 3 E E E ab E Lr)<|az 1<|aC E .n (ae E (ac 1 E) Li ab E)<|az 3<|bg E .n (aD (l:=kC) (u:=R+(ival (q.1,q.2))) 2 E E E ab E Lr)<|az 4<|aC E .n (a7 E)<|bc (by kernel_rfl)<|bS<|am ?_
      have hf:=floor_2 hx hl h5 (by rw [←q_v];exact h_t45)
      refine tb 3 E (y:=(x.fdiv y)) hf.1<|tb 2 E (y:=(if y=0 then 0 else x.fmod y)) (by rw [if_neg hy,q_v];exact hf.2)<|tl 6 E (y:=(if y=0 then 11 else 0)) (by rw [if_neg hy]) ?_
      exact Qd E (a5 E (ac 3 E) ab (a5 E (ac 2 E) ab (ar E ak))) ⟨E,E⟩
    ·
     refine aC E .n (ae E (ac 1 E) Li ab E)<|az 0<|aC E .n (ae E (ac 0 E) Li ab E)<|az 2<|bg E .n (aD (l:=kC) (u:=M-1) 3 E E E ab E Lr)<|az 3<|bg E .n (aD (l:=kC) (u:=R+(ival (q.1,q.2))) 2 E E E ab E Lr)<|az 4<|aC E .n (a7 E)<|bc (by kernel_rfl)<|bS<|am ?_
     have hf:=floor_2 hx hl h5 (by rw [←q_v];exact h_t45)
     refine tb 3 E (y:=(x.fdiv y)) hf.1<|tb 2 E (y:=(if y=0 then 0 else x.fmod y)) (by rw [if_neg hy,q_v];exact hf.2)<|tl 6 E (y:=(if y=0 then 11 else 0)) (by rw [if_neg hy]) ?_
     exact Qd E (a5 E (ac 3 E) ab (a5 E (ac 2 E) ab (ar E ak))) ⟨E,E⟩
   ·
    refine Ck<|aa<|dy (by kernel_rfl) ?_
    refine bv 0 [1] ⟨?_,⟨?_,trivial⟩⟩
    ·
     refine aC E .n (ae E (ac 0 E) Li ab E) ?_
     refine bv 1 [2] ⟨?_,⟨?_,trivial⟩⟩
     ·
      refine aC E .n (ae E (ac 1 E) Li ab E)<|az 2<|bg E .n (aD (l:=kC) (u:=M) 3 E E E ab E Lr)<|az 3<|bg E .n (aD (l:=kC) (u:=R) 2 E E E ab E Lr)<|az 4<|aC E .n (a7 E)<|bc (by kernel_rfl)<|bS<|am ?_
      have hf:=floor_1 hx hl h5 (by rw [←q_v];exact h_t45)
      refine tb 3 E (y:=(x.fdiv y)) hf.1<|tb 2 E (y:=(if y=0 then 0 else x.fmod y)) (by rw [if_neg hy];exact hf.2)<|tl 6 E (y:=(if y=0 then 11 else 0)) (by rw [if_neg hy]) ?_
      exact Qd E (a5 E (ac 3 E) ab (a5 E (ac 2 E) ab (ar E ak))) ⟨E,E⟩
     ·
      refine bg E .n (aD (l:=kC) (u:=M) 3 E E E ab E Lr)<|az 1<|aC E .n (ae E (ac 1 E) Li ab E)<|az 3<|bg E .n (aD (l:=kC) (u:=R) 2 E E E ab E Lr)<|az 4<|aC E .n (a7 E)<|bc (by kernel_rfl)<|bS<|am ?_
      have hf:=floor_1 hx hl h5 (by rw [←q_v];exact h_t45)
      refine tb 3 E (y:=(x.fdiv y)) hf.1<|tb 2 E (y:=(if y=0 then 0 else x.fmod y)) (by rw [if_neg hy];exact hf.2)<|tl 6 E (y:=(if y=0 then 11 else 0)) (by rw [if_neg hy]) ?_
      exact Qd E (a5 E (ac 3 E) ab (a5 E (ac 2 E) ab (ar E ak))) ⟨E,E⟩
    ·
     refine aC E .n (ae E (ac 1 E) Li ab E)<|az 0<|aC E .n (ae E (ac 0 E) Li ab E)<|az 2<|bg E .n (aD (l:=kC) (u:=M) 3 E E E ab E Lr)<|az 3<|bg E .n (aD (l:=kC) (u:=R) 2 E E E ab E Lr)<|az 4<|aC E .n (a7 E)<|bc (by kernel_rfl)<|bS<|am ?_
     have hf:=floor_1 hx hl h5 (by rw [←q_v];exact h_t45)
     refine tb 3 E (y:=(x.fdiv y)) hf.1<|tb 2 E (y:=(if y=0 then 0 else x.fmod y)) (by rw [if_neg hy];exact hf.2)<|tl 6 E (y:=(if y=0 then 11 else 0)) (by rw [if_neg hy]) ?_
     exact Qd E (a5 E (ac 3 E) ab (a5 E (ac 2 E) ab (ar E ak))) ⟨E,E⟩
  ·
   refine ba (Γ:=[.fr (kC.is R),.fr (kN6.is R.sign),.fr (kBool.is false),.fr (kBool.is false),.fr VP.tt,.fr VP.tt,.fr VP.tt,.fr VP.tt,.fr VP.tt,.fr (kBool.is false)]) (J E (fun N=>ae E (mN N 1 E) Li ab E) (J E (fun N=>aF dp (aq E (aJ (by assumption)) ax) (dk R)) (J E (fun N=>aV (bt E E) (ag (by simp at h5;simp [h5]))) (om E E (oc (Ob.k (b:=false) E E E) (oc (Ob.k (b:=false) E E E) (oc (Ob.k (b:=false) E E E) (oc (Ob.k (b:=false) E E E) (oc (Ob.k (b:=false) E E E) (J E (fun N=>cb E E) oz))))))))))<|fun σ=>?_
   refine Wn<|df E<|Ck<|aa<|dy (by kernel_rfl) ?_
   refine bv 0 [1] ⟨?_,⟨?_,trivial⟩⟩
   ·
    refine aC E .n (ae E (ac 0 E) Li ab E) ?_
    refine bv 1 [2] ⟨?_,⟨?_,trivial⟩⟩
    ·
     refine aC E .n (ae E (ac 1 E) Li ab E)<|az 2<|bg E .n (aD (l:=kC) (u:=M) 3 E E E ab E Lr)<|az 3<|bg E .n (aD (l:=kC) (u:=R) 2 E E E ab E Lr)<|az 4<|aC E .n (a7 E)<|bc (by kernel_rfl)<|bS<|am ?_
     have hf:=floor_0 hx hl h5
     refine tb 3 E (y:=(x.fdiv y)) hf.1<|tb 2 E (y:=(if y=0 then 0 else x.fmod y)) (by rw [if_neg hy];exact hf.2)<|tl 6 E (y:=(if y=0 then 11 else 0)) (by rw [if_neg hy]) ?_
     exact Qd E (a5 E (ac 3 E) ab (a5 E (ac 2 E) ab (ar E ak))) ⟨E,E⟩
    ·
     refine bg E .n (aD (l:=kC) (u:=M) 3 E E E ab E Lr)<|az 1<|aC E .n (ae E (ac 1 E) Li ab E)<|az 3<|bg E .n (aD (l:=kC) (u:=R) 2 E E E ab E Lr)<|az 4<|aC E .n (a7 E)<|bc (by kernel_rfl)<|bS<|am ?_
     have hf:=floor_0 hx hl h5
     refine tb 3 E (y:=(x.fdiv y)) hf.1<|tb 2 E (y:=(if y=0 then 0 else x.fmod y)) (by rw [if_neg hy];exact hf.2)<|tl 6 E (y:=(if y=0 then 11 else 0)) (by rw [if_neg hy]) ?_
     exact Qd E (a5 E (ac 3 E) ab (a5 E (ac 2 E) ab (ar E ak))) ⟨E,E⟩
   ·
    refine aC E .n (ae E (ac 1 E) Li ab E)<|az 0<|aC E .n (ae E (ac 0 E) Li ab E)<|az 2<|bg E .n (aD (l:=kC) (u:=M) 3 E E E ab E Lr)<|az 3<|bg E .n (aD (l:=kC) (u:=R) 2 E E E ab E Lr)<|az 4<|aC E .n (a7 E)<|bc (by kernel_rfl)<|bS<|am ?_
    have hf:=floor_0 hx hl h5
    refine tb 3 E (y:=(x.fdiv y)) hf.1<|tb 2 E (y:=(if y=0 then 0 else x.fmod y)) (by rw [if_neg hy];exact hf.2)<|tl 6 E (y:=(if y=0 then 11 else 0)) (by rw [if_neg hy]) ?_
    exact Qd E (a5 E (ac 3 E) ab (a5 E (ac 2 E) ab (ar E ak))) ⟨E,E⟩
abbrev et:=@c_zint_Floor
theorem c_zint_Exact (x y:Int):Fn Tryz.prog 208 [kZ.is x,kZ.is y] (VP.tup [kC.is (if x.fmod y=0∧y≠0 then x.fdiv y else 0),kN6.is (if y=0 then 11 else if x.fmod y=0 then 0 else 20)]):=by
 refine aK Tryz.func208 E E fun m w=>aR (i:=0) E dF fun hsx=>aR (i:=1) E dF fun hsy=>Cr<|a6 .n E fun b1=>a6 .n E fun b2=>a8 .n aZ fun b3=>Wa E<|Wr<|Ws (ae E (ac 2 E) Li ab E)<|Ws (ae E (ac 1 E) Li ab E)<|Ws (f2 fn214 E E (et x y))<|Wm E<|Ws (aH E E)<|Ws (aH E E)<|Ws (aH E E)<|a8 .n aZ fun b4=>a8 .n aZ fun b5=>aG .n (aD (l:=kC) (u:=x.fdiv y) 1 E E E ab E Lr)<|aG .n (aD (l:=kC) (u:=if y=0 then 0 else x.fmod y) 0 E E E ab E Lr) ?_
 refine Wa E<|Wn<|aa<|aw<|Cr<|Wm E<|Ws (bt E E)<|Wa E<|Wn ?_
 refine aB E (fun h_t16=>?_)<|fun h_t16=>?_
 ·
  refine Cr<|Ws (cH dR E bH (.nil _))<|Wm E<|aG .n (aD (l:=kC) (u:=0) 2 E E E ab E Lr)<|Wa E<|Wn<|am<|bE<|aQ ?_
  have hy:y=0:=by by_cases h:y=0;exact h;simp [h] at h_t16
  refine tb 2 E (y:=(if x.fmod y=0∧y≠0 then x.fdiv y else 0)) (by simp [hy])<|tl 5 E (y:=(if y=0 then 11 else if x.fmod y=0 then 0 else 20)) (by simp [hy]) ?_
  exact Qd E (a5 E (ac 2 E) ab (ar E ak)) ⟨E,E⟩
 ·
  refine aa ?_
  have hy:y≠0:=fun h=>by simp [h] at h_t16
  have hsr:Sm (if y=0 then 0 else x.fmod y):=by rw [if_neg hy];exact fmod_sm hsy hy
  refine ah<|Ws (ae E (ac 0 E) Li ab E)<|Ws (aF dp (aq E (aJ (by assumption)) ax) (dk (if y=0 then 0 else x.fmod y)))<|Ws (bt E E)<|Wa E<|Wn ?_
  refine aB E (fun h_t21=>?_)<|fun h_t21=>?_
  ·
   refine Cr<|Ws (cH dR E bH (.nil _))<|aG .n (aD (l:=kC) (u:=0) 2 E E E ab E Lr)<|Wa E<|Wn<|am<|bE<|aQ ?_
   have hm:¬x.fmod y=0:=fun h=>by simp [hy,h] at h_t21
   refine tb 2 E (y:=(if x.fmod y=0∧y≠0 then x.fdiv y else 0)) (by simp [hm])<|tl 5 E (y:=(if y=0 then 11 else if x.fmod y=0 then 0 else 20)) (by simp [hy,hm]) ?_
   exact Qd E (a5 E (ac 2 E) ab (ar E ak)) ⟨E,E⟩
  ·
   refine cc<|Qb<|Cr<|Ws (ae E (ac 1 E) Li ab E)<|aG .n (aD (l:=kC) (u:=x.fdiv y) 2 E E E ab E Lr)<|Wa E<|Wn<|am ?_
   have hm:x.fmod y=0:=by by_cases h:x.fmod y=0;exact h;exfalso;apply h_t21;rw [if_neg hy];exact fun h0=>h (Int.sign_eq_zero_iff_zero.1 h0)
   refine tb 2 E (y:=(if x.fmod y=0∧y≠0 then x.fdiv y else 0)) (by simp [hm,hy])<|tl 5 E (y:=(if y=0 then 11 else if x.fmod y=0 then 0 else 20)) (by simp [hy,hm]) ?_
   exact Qd E (a5 E (ac 2 E) ab (ar E ak)) ⟨E,E⟩
theorem c_ref02_Floor (x y:Int) (hy:y≠0):Fn Tryz.prog 162 [kZ.is x,kZ.is y] (VP.tup [kC.is (x.fdiv y),kC.is (x.fmod y)]):=by
 refine aK Tryz.func162 E E fun m w=>aR (i:=0) E dF fun hsx=>aR (i:=1) E dF fun hsy=>cG 0 E fun p p_v p_n p_l=>cG 1 E fun q q_v q_n q_l=>Cr<|a6 .n E fun b1=>a6 .n E fun b2=>a8 .n aZ fun b3=>a8 .n aZ fun b4=>Wr<|Ws (aM E bK E)<|Ws (ae (p:=kN.is p.2) E (ac 3 E) (aN Li) bM E)<|Ws (aM E bK E)<|Ws (ae (p:=kN.is q.2) E (ac 2 E) (aN Li) bM E)<|Ws (f2 fn211 E E (fc p.2 q.2 (by omega) (by omega)))<|Wm E<|Ws (aH E E)<|Ws (aH E E)<|Ws (aH E E) ?_
 refine Wa E<|Wa E<|Wa E<|Wr<|Ws (aM E cw E)<|Ws (ae (p:=kBool.is p.1) E (ac 3 E) (aU Li) cy E)<|Ws (aM E cw E)<|Ws (ae (p:=kBool.is q.1) E (ac 2 E) (aU Li) cy E)<|Ws (O.neB E E U4)<|Wm E<|Ws (f2 dV E E (dN (decide (p.1≠q.1)) (limbs (nval p.2/nval q.2))))<|Ax (l:=kC) (u:=ival ((decide (p.1≠q.1)),(limbs (nval p.2/nval q.2)))) aZ E ab (fun _=>E) Lr fun b5=>Wn<|aa ?_
 have hq0:nval q.2≠0:=fun h=>by rw [←q_v] at hy;have:=ival_abs q;rw [h] at this;exact hy (by omega)
 obtain ⟨M,hM⟩:∃M,M=ival (decide (p.1≠q.1),limbs (nval p.2/nval q.2)):=⟨_,rfl⟩
 obtain ⟨R,hR⟩:∃R,R=ival (p.1,if nval q.2=0 then [] else limbs (nval p.2%nval q.2)):=⟨_,rfl⟩
 refine tb 0 E (y:=M) hM.symm ?_
 have hx:x=M*y+R:=by rw [←p_v,←q_v,hM,hR];exact div_split hq0
 have hl:R.natAbs<y.natAbs:=by rw [←q_v,hR];exact rem_lt hq0
 have hsM:Sm M:=Sm_le hsx (by rw [hM,←p_v,ival_abs,ival_abs,nval_limbs];exact Nat.div_le_self _ _)
 have hsR:Sm R:=Sm_le hsx (by rw [hR,←p_v,ival_abs,ival_abs,if_neg hq0,nval_limbs];exact Nat.mod_le _ _)
 have hs1:Sm 1:=Sm_lit (by decide)
 have hsMy:Sm (M*y):=Sm_le hsx (by rw [hM,←p_v,←q_v,Int.natAbs_mul,ival_abs,ival_abs,ival_abs,nval_limbs];exact Nat.div_mul_le_self _ _)
 refine dJ (b':=OB.box b2 29 kZ y) 3 E (OB.I_Z q_v q_n)<|dJ (b':=OB.box b1 29 kZ x) 4 E (OB.I_Z p_v p_n) ?_
 refine ba (Γ:=[.fr (kZ.is x),.fr (kC.is M),.fr (kZ.is y),.fr (kC.is (M*y)),.fr (kC.is (x-(M*y))),.al (fun b=>OB.box b 29 kC 0)]) (J E (fun N=>ae E (mN N 4 E) Li ab E) (J E (fun N=>ae E (mN N 0 E) Li ab E) (J E (fun N=>ae E (mN N 3 E) Li ab E) (J E (fun N=>aF dm (aq E (aJ (by assumption)) (aX E ax)) (dl M y)) (J E (fun N=>aF fn161 (aX E (aq E (aJ (by assumption)) ax)) (eP x (M*y))) (oc (dA E aZ) oz))))))<|fun σ1=>?_
 refine aG .n (aD (l:=kC) (u:=x-(M*y)) 0 E E E ab E Lr)<|Wn<|aa<|aa<|tb 0 E (y:=R) (by rw [hx];omega) ?_
 by_cases h5:R.sign≠0
 ·
  refine ba (Γ:=[.fr (kC.is R),.fr (kN6.is R.sign),.fr (kBool.is true),.fr (kBool.is true),.fr (kC.is R),.fr (kN6.is R.sign),.fr (kZ.is y),.fr (kN6.is y.sign),.fr (kBool.is (decide (R.sign≠y.sign))),.fr (kBool.is (decide (R.sign≠y.sign)))]) (J E (fun N=>ae E (mN N 0 E) Li ab E) (J E (fun N=>aF fn88 (aq E (aJ (by assumption)) ax) (dO R)) (J E (fun N=>aV (bt E E) (ag (by simp [h5]))) (om E E (oc (cJ E (.g E E) fun N=>(ae E (mN N 0 E) Li ab E)) (oc (cJ E (.g E E) fun N=>(aF fn88 (aq E (aJ (by assumption)) ax) (dO R))) (oc (cJ E (.g E E) fun N=>(ae E (mN N 4 E) Li ab E)) (oc (cJ E (.g E E) fun N=>(f1 fn88 E (dO y))) (oc (cJ E (.g E E) fun N=>(bt E E)) (J E (fun N=>ch E E) oz))))))))))<|fun σ2=>?_
  refine Wn ?_
  refine aB E (fun h_t41=>?_)<|fun h_t41=>?_
  ·
   refine aa ?_
   refine ba (Γ:=[.fr (kC.is M),.fr (kC.is 1),.fr (kC.is (M-1))]) (J E (fun N=>ae E (mN N 1 E) Li ab E) (J E (fun N=>aF dj (aq E (cD (by omega)) ax) (dh 1)) (J E (fun N=>aF fn161 (aq E (aJ (by assumption)) (aq E (aJ (by assumption)) ax)) (eP M 1)) oz)))<|fun σ3=>?_
   refine aG .n (aD (l:=kC) (u:=M-1) 1 E E E ab E Lr)<|Wn<|ah<|Ws (ae E (ac 0 E) Li ab E)<|Ws (ae E (ac 4 E) Li ab E)<|Ws (aF fn127 (aq E (aJ (by assumption)) (aX E ax)) (eu R y))<|aG .n (aD (l:=kC) (u:=R+y) 0 E E E ab E Lr)<|Wn<|aa ?_
   refine eb [(0,kI.is (p.1,p.2)),(1,kI.is (q.1,q.2)),(2,VP.pt b1 0),(3,VP.pt b2 0),(4,VP.pt b3 0),(5,VP.pt b4 0),(6,kN.is (limbs (nval p.2/nval q.2))),(7,kN.is (if nval q.2=0 then [] else limbs (nval p.2%nval q.2))),(8,kN6.is (if nval q.2=0 then 11 else 0)),(9,VP.pt b5 0),(10,VP.pt (σ1 5) 0),(11,VP.tup [kN.is (limbs (nval p.2/nval q.2)),kN.is (if nval q.2=0 then [] else limbs (nval p.2%nval q.2)),kN6.is (if nval q.2=0 then 11 else 0)]),(12,VP.pt b1 1),(13,kN.is p.2),(14,VP.pt b2 1),(15,kN.is q.2),(16,VP.tup [kN.is (limbs (nval p.2/nval q.2)),kN.is (if nval q.2=0 then [] else limbs (nval p.2%nval q.2)),kN6.is (if nval q.2=0 then 11 else 0)]),(17,kN.is (limbs (nval p.2/nval q.2))),(18,kN.is (if nval q.2=0 then [] else limbs (nval p.2%nval q.2))),(19,kN6.is (if nval q.2=0 then 11 else 0)),(20,VP.pt b1 0),(21,kBool.is p.1),(22,VP.pt b2 0),(23,kBool.is q.1),(24,kBool.is (decide (p.1≠q.1))),(25,kN.is (limbs (nval p.2/nval q.2))),(26,kC.is (ival ((decide (p.1≠q.1)),(limbs (nval p.2/nval q.2))))),(27,kZ.is x),(28,kC.is M),(29,kZ.is y),(30,kC.is (M*y)),(31,kC.is (x-(M*y))),(32,kC.is R),(33,kN6.is R.sign),(34,kBool.is true),(35,kBool.is true),(36,kC.is R),(37,kN6.is R.sign),(38,kZ.is y),(39,kN6.is y.sign),(40,kBool.is (decide (R.sign≠y.sign))),(41,kBool.is (decide (R.sign≠y.sign))),(42,kC.is M),(43,kC.is 1),(44,kC.is (M-1)),(45,kC.is R),(46,kZ.is y),(47,kC.is (R+y)),(48,kC.is (M-1)),(49,kC.is (R+y))] [OB.box (σ1 5) 29 kC (R+y),OB.box b5 29 kC (M-1),OB.box b4 29 kC (R+y),OB.box b3 29 kC (M-1),OB.box b2 29 kZ y,OB.box b1 29 kZ x] ?_ ?_
   ·
    refine dy (by kernel_rfl) ?_
    refine bv 0 [1] ⟨?_,⟨?_,trivial⟩⟩
    ·
     refine aC E .n (ae E (ac 1 E) Li ab E) ?_
     refine bv 1 [2] ⟨?_,⟨?_,trivial⟩⟩
     ·
      refine aC E .n (ae E (ac 0 E) Li ab E)<|az 2<|bg E .n (aD (l:=kC) (u:=M-1) 3 E E E ab E Lr)<|az 3<|bg E .n (aD (l:=kC) (u:=R+y) 2 E E E ab E Lr)<|bc (by kernel_rfl) ?_
      exact bY (af E E E E (af E E E E (af E E E E (af E E E E (af E E E E (af E E E E (af E E E E (af E E E E (af E E E E (af E E E E (af E E E E (af E E E E (Z E (Z E ai))))))))))))))<|au _
     ·
      refine bg E .n (aD (l:=kC) (u:=M-1) 3 E E E ab E Lr)<|az 1<|aC E .n (ae E (ac 0 E) Li ab E)<|az 3<|bg E .n (aD (l:=kC) (u:=R+y) 2 E E E ab E Lr)<|bc (by kernel_rfl) ?_
      exact bY (af E E E E (af E E E E (af E E E E (af E E E E (af E E E E (af E E E E (af E E E E (af E E E E (af E E E E (af E E E E (af E E E E (af E E E E (Z E (Z E ai))))))))))))))<|au _
    ·
     refine aC E .n (ae E (ac 0 E) Li ab E)<|az 0<|aC E .n (ae E (ac 1 E) Li ab E)<|az 2<|bg E .n (aD (l:=kC) (u:=M-1) 3 E E E ab E Lr)<|az 3<|bg E .n (aD (l:=kC) (u:=R+y) 2 E E E ab E Lr)<|bc (by kernel_rfl) ?_
     exact bY (af E E E E (af E E E E (af E E E E (af E E E E (af E E E E (af E E E E (af E E E E (af E E E E (af E E E E (af E E E E (af E E E E (af E E E E (Z E (Z E ai))))))))))))))<|au _
   refine bS<|am ?_
   have hf:=floor_2 hx hl h5 (by assumption)
   refine tb 3 E (y:=(x.fdiv y)) hf.1<|tb 2 E (y:=(x.fmod y)) hf.2 ?_
   exact Qd E (a5 E (ac 3 E) ab (a5 E (ac 2 E) ab ak)) ⟨E,E⟩
  ·
   refine Ck<|aa ?_
   refine eb [(0,kI.is (p.1,p.2)),(1,kI.is (q.1,q.2)),(2,VP.pt b1 0),(3,VP.pt b2 0),(4,VP.pt b3 0),(5,VP.pt b4 0),(6,kN.is (limbs (nval p.2/nval q.2))),(7,kN.is (if nval q.2=0 then [] else limbs (nval p.2%nval q.2))),(8,kN6.is (if nval q.2=0 then 11 else 0)),(9,VP.pt b5 0),(10,VP.pt (σ1 5) 0),(11,VP.tup [kN.is (limbs (nval p.2/nval q.2)),kN.is (if nval q.2=0 then [] else limbs (nval p.2%nval q.2)),kN6.is (if nval q.2=0 then 11 else 0)]),(12,VP.pt b1 1),(13,kN.is p.2),(14,VP.pt b2 1),(15,kN.is q.2),(16,VP.tup [kN.is (limbs (nval p.2/nval q.2)),kN.is (if nval q.2=0 then [] else limbs (nval p.2%nval q.2)),kN6.is (if nval q.2=0 then 11 else 0)]),(17,kN.is (limbs (nval p.2/nval q.2))),(18,kN.is (if nval q.2=0 then [] else limbs (nval p.2%nval q.2))),(19,kN6.is (if nval q.2=0 then 11 else 0)),(20,VP.pt b1 0),(21,kBool.is p.1),(22,VP.pt b2 0),(23,kBool.is q.1),(24,kBool.is (decide (p.1≠q.1))),(25,kN.is (limbs (nval p.2/nval q.2))),(26,kC.is (ival ((decide (p.1≠q.1)),(limbs (nval p.2/nval q.2))))),(27,kZ.is x),(28,kC.is M),(29,kZ.is y),(30,kC.is (M*y)),(31,kC.is (x-(M*y))),(32,kC.is R),(33,kN6.is R.sign),(34,kBool.is true),(35,kBool.is true),(36,kC.is R),(37,kN6.is R.sign),(38,kZ.is y),(39,kN6.is y.sign),(40,kBool.is (decide (R.sign≠y.sign))),(41,kBool.is (decide (R.sign≠y.sign))),(48,kC.is M),(49,kC.is R)] [OB.box (σ1 5) 29 kC R,OB.box b5 29 kC M,OB.box b4 29 kC R,OB.box b3 29 kC M,OB.box b2 29 kZ y,OB.box b1 29 kZ x] ?_ ?_
   ·
    refine dy (by kernel_rfl) ?_
    refine bv 0 [1] ⟨?_,⟨?_,trivial⟩⟩
    ·
     refine aC E .n (ae E (ac 1 E) Li ab E) ?_
     refine bv 1 [2] ⟨?_,⟨?_,trivial⟩⟩
     ·
      refine aC E .n (ae E (ac 0 E) Li ab E)<|az 2<|bg E .n (aD (l:=kC) (u:=M) 3 E E E ab E Lr)<|az 3<|bg E .n (aD (l:=kC) (u:=R) 2 E E E ab E Lr)<|bc (by kernel_rfl) ?_
      exact bY (af E E E E (af E E E E (af E E E E (af E E E E (af E E E E (af E E E E (af E E E E (af E E E E (af E E E E (af E E E E (Z E (Z E (Z E (Z E ai))))))))))))))<|au _
     ·
      refine bg E .n (aD (l:=kC) (u:=M) 3 E E E ab E Lr)<|az 1<|aC E .n (ae E (ac 0 E) Li ab E)<|az 3<|bg E .n (aD (l:=kC) (u:=R) 2 E E E ab E Lr)<|bc (by kernel_rfl) ?_
      exact bY (af E E E E (af E E E E (af E E E E (af E E E E (af E E E E (af E E E E (af E E E E (af E E E E (af E E E E (af E E E E (Z E (Z E (Z E (Z E ai))))))))))))))<|au _
    ·
     refine aC E .n (ae E (ac 0 E) Li ab E)<|az 0<|aC E .n (ae E (ac 1 E) Li ab E)<|az 2<|bg E .n (aD (l:=kC) (u:=M) 3 E E E ab E Lr)<|az 3<|bg E .n (aD (l:=kC) (u:=R) 2 E E E ab E Lr)<|bc (by kernel_rfl) ?_
     exact bY (af E E E E (af E E E E (af E E E E (af E E E E (af E E E E (af E E E E (af E E E E (af E E E E (af E E E E (af E E E E (Z E (Z E (Z E (Z E ai))))))))))))))<|au _
   refine bS<|am ?_
   have hf:=floor_1 hx hl h5 (by assumption)
   refine tb 3 E (y:=(x.fdiv y)) hf.1<|tb 2 E (y:=(x.fmod y)) hf.2 ?_
   exact Qd E (a5 E (ac 3 E) ab (a5 E (ac 2 E) ab ak)) ⟨E,E⟩
 ·
  refine ba (Γ:=[.fr (kC.is R),.fr (kN6.is R.sign),.fr (kBool.is false),.fr (kBool.is false),.fr (VP.ex undef),.fr (VP.ex undef),.fr (VP.ex undef),.fr (VP.ex undef),.fr (VP.ex undef),.fr (kBool.is false)]) (J E (fun N=>ae E (mN N 0 E) Li ab E) (J E (fun N=>aF fn88 (aq E (aJ (by assumption)) ax) (dO R)) (J E (fun N=>aV (bt E E) (ag (by simp at h5;simp [h5]))) (om E E (oc (Ob.ku (b:=false) E E E) (oc (Ob.ku (b:=false) E E E) (oc (Ob.ku (b:=false) E E E) (oc (Ob.ku (b:=false) E E E) (oc (Ob.ku (b:=false) E E E) (J E (fun N=>cb E E) oz))))))))))<|fun σ6=>?_
  refine Wn<|df E<|Ck<|aa ?_
  refine eb [(0,kI.is (p.1,p.2)),(1,kI.is (q.1,q.2)),(2,VP.pt b1 0),(3,VP.pt b2 0),(4,VP.pt b3 0),(5,VP.pt b4 0),(6,kN.is (limbs (nval p.2/nval q.2))),(7,kN.is (if nval q.2=0 then [] else limbs (nval p.2%nval q.2))),(8,kN6.is (if nval q.2=0 then 11 else 0)),(9,VP.pt b5 0),(10,VP.pt (σ1 5) 0),(11,VP.tup [kN.is (limbs (nval p.2/nval q.2)),kN.is (if nval q.2=0 then [] else limbs (nval p.2%nval q.2)),kN6.is (if nval q.2=0 then 11 else 0)]),(12,VP.pt b1 1),(13,kN.is p.2),(14,VP.pt b2 1),(15,kN.is q.2),(16,VP.tup [kN.is (limbs (nval p.2/nval q.2)),kN.is (if nval q.2=0 then [] else limbs (nval p.2%nval q.2)),kN6.is (if nval q.2=0 then 11 else 0)]),(17,kN.is (limbs (nval p.2/nval q.2))),(18,kN.is (if nval q.2=0 then [] else limbs (nval p.2%nval q.2))),(19,kN6.is (if nval q.2=0 then 11 else 0)),(20,VP.pt b1 0),(21,kBool.is p.1),(22,VP.pt b2 0),(23,kBool.is q.1),(24,kBool.is (decide (p.1≠q.1))),(25,kN.is (limbs (nval p.2/nval q.2))),(26,kC.is (ival ((decide (p.1≠q.1)),(limbs (nval p.2/nval q.2))))),(27,kZ.is x),(28,kC.is M),(29,kZ.is y),(30,kC.is (M*y)),(31,kC.is (x-(M*y))),(32,kC.is R),(33,kN6.is R.sign),(34,kBool.is false),(35,kBool.is false),(36,VP.ex undef),(37,VP.ex undef),(38,VP.ex undef),(39,VP.ex undef),(40,VP.ex undef),(41,kBool.is false),(48,kC.is M),(49,kC.is R)] [OB.box (σ1 5) 29 kC R,OB.box b5 29 kC M,OB.box b4 29 kC R,OB.box b3 29 kC M,OB.box b2 29 kZ y,OB.box b1 29 kZ x] ?_ ?_
  ·
   refine dy (by kernel_rfl) ?_
   refine bv 0 [1] ⟨?_,⟨?_,trivial⟩⟩
   ·
    refine aC E .n (ae E (ac 1 E) Li ab E) ?_
    refine bv 1 [2] ⟨?_,⟨?_,trivial⟩⟩
    ·
     refine aC E .n (ae E (ac 0 E) Li ab E)<|az 2<|bg E .n (aD (l:=kC) (u:=M) 3 E E E ab E Lr)<|az 3<|bg E .n (aD (l:=kC) (u:=R) 2 E E E ab E Lr)<|bc (by kernel_rfl) ?_
     exact bY (af E E E E (af E E E E (af E E E E (af E E E E (af E E E E (af E E E E (af E E E E (af E E E E (af E E E E (af E E E E (Z E (Z E (Z E (Z E ai))))))))))))))<|au _
    ·
     refine bg E .n (aD (l:=kC) (u:=M) 3 E E E ab E Lr)<|az 1<|aC E .n (ae E (ac 0 E) Li ab E)<|az 3<|bg E .n (aD (l:=kC) (u:=R) 2 E E E ab E Lr)<|bc (by kernel_rfl) ?_
     exact bY (af E E E E (af E E E E (af E E E E (af E E E E (af E E E E (af E E E E (af E E E E (af E E E E (af E E E E (af E E E E (Z E (Z E (Z E (Z E ai))))))))))))))<|au _
   ·
    refine aC E .n (ae E (ac 0 E) Li ab E)<|az 0<|aC E .n (ae E (ac 1 E) Li ab E)<|az 2<|bg E .n (aD (l:=kC) (u:=M) 3 E E E ab E Lr)<|az 3<|bg E .n (aD (l:=kC) (u:=R) 2 E E E ab E Lr)<|bc (by kernel_rfl) ?_
    exact bY (af E E E E (af E E E E (af E E E E (af E E E E (af E E E E (af E E E E (af E E E E (af E E E E (af E E E E (af E E E E (Z E (Z E (Z E (Z E ai))))))))))))))<|au _
  refine bS<|am ?_
  have hf:=floor_0 hx hl h5
  refine tb 3 E (y:=(x.fdiv y)) hf.1<|tb 2 E (y:=(x.fmod y)) hf.2 ?_
  exact Qd E (a5 E (ac 3 E) ab (a5 E (ac 2 E) ab ak)) ⟨E,E⟩
abbrev fo:=@c_ref02_Floor
theorem c_rat_made (n d:Int) (hd:d≠0):Fn Tryz.prog 136 [kZ.is n,kZ.is d] (kRC.is (rmk n d)):=by
 refine aK Tryz.func136 E E fun m w=>aR (i:=0) E dF fun hsn=>aR (i:=1) E dF fun hsd=>Cr<|a6 .n E fun b1=>a6 .n E fun b2=>a8 .n bU fun b3=>Wn ?_
 refine CW.cut2 (fun (n1:Int) (d1:Int)=>n1=n*d.sign∧d1=(d.natAbs:Int)∧Sm n1∧Sm d1) (fun (n1:Int) (d1:Int)=>[(2,VP.pt b1 0),(3,VP.pt b2 0),(4,VP.pt b3 0)]) (fun (n1:Int) (d1:Int)=>[OB.box b3 31 kRC (0,0),OB.box b2 29 kZ d1,OB.box b1 29 kZ n1]) ?_ ?_
 ·
  refine Cr<|Ws (ae E (ac 1 E) Li ab E)<|Ws (f1 dp E (dk d))<|Ws (aS E E)<|Wn ?_
  refine aB E (fun h_t12=>?_)<|fun h_t12=>?_
  ·
   refine ba (Γ:=[.fr (kZ.is n),.fr (kC.is (-n)),.fr (kZ.is d),.fr (kC.is (-d))]) (J E (fun N=>ae E (mN N 2 E) Li ab E) (J E (fun N=>f1 fn145 E (ey n)) (J E (fun N=>ae E (mN N 1 E) Li ab E) (J E (fun N=>f1 fn145 E (ey d)) oz))))<|fun σ1=>?_
   refine aG .n (aD (l:=kC) (u:=-n) 2 E E E ab E Lr)<|aG .n (aD (l:=kC) (u:=-d) 1 E E E ab E Lr)<|aj ?_
   exact eK (-n) (-d) ⟨(mul_sign_neg (sgn_lt0 h_t12)).symm,by have:=sgn_lt0 h_t12;omega,ec hsn,ec hsd⟩ (Z E (Z E (Z E ai)))<|aW<|OS.keep<|OS.keepLe (eW (ec (by assumption)) (by omega))<|OS.keepLe (eW (ec (by assumption)) (by omega)) OS.nil
  ·
   refine cc ?_
   exact eK n d ⟨(mul_sign_pos (by have:=sgn_ge0 h_t12;omega)).symm,by have:=sgn_ge0 h_t12;omega,hsn,hsd⟩ (Z E (Z E (Z E ai)))<|au _
 intro n1 d1 ⟨hn1,hd1,hs1,hs2⟩
 have hs3:Sm ((Int.gcd n1 d1:Nat):Int):=Sm_le hsd (by rw [hn1,hd1,gcd_sign hd];exact gcd_le_abs hd)
 refine Cr<|Ws (ae E (ac 2 E) Li ab E)<|Ws (ae E (ac 1 E) Li ab E)<|Ws (f2 fn207 E E (c_zint_Gcd n1 d1))<|Ax (l:=kC) (u:=(Int.gcd n1 d1:Int)) aZ E ab (fun _=>E) Lr fun b4=>Wr<|Ws (ae E (ac 3 E) Li ab E)<|Ws (ae E (ac 0 E) Li ab E)<|Ws (aF fn208 (aX E (aq E (aJ (by assumption)) ax)) (c_zint_Exact n1 (Int.gcd n1 d1:Int)))<|Wm E<|Ws (aH E E)<|Ws (aH E E)<|Ax (l:=kC) (u:=if n1.fmod (Int.gcd n1 d1:Int)=0∧(Int.gcd n1 d1:Int)≠0 then n1.fdiv (Int.gcd n1 d1:Int) else 0) aZ E ab (fun _=>E) Lr fun b5=>Wa E<|Wr ?_
 refine Ws (ae E (ac 3 E) Li ab E)<|Ws (ae E (ac 1 E) Li ab E)<|Ws (aF fn208 (aX E (aq E (aJ (by assumption)) ax)) (c_zint_Exact d1 (Int.gcd n1 d1:Int)))<|Wm E<|Ws (aH E E)<|Ws (aH E E)<|Ax (l:=kC) (u:=if d1.fmod (Int.gcd n1 d1:Int)=0∧(Int.gcd n1 d1:Int)≠0 then d1.fdiv (Int.gcd n1 d1:Int) else 0) aZ E ab (fun _=>E) Lr fun b6=>Wa E<|Wr<|Ws (ae E (ac 1 E) Li ab E)<|Ws (ae E (ac 0 E) Li ab E)<|Ws (cH eL E (cU E (cU E bH)) (.cons E (aU Li) (.cons E (aN Li) (.nil _))))<|aG .n (aD (l:=kRC) (u:=(if n1.fmod (Int.gcd n1 d1:Int)=0∧(Int.gcd n1 d1:Int)≠0 then n1.fdiv (Int.gcd n1 d1:Int) else 0,if d1.fmod (Int.gcd n1 d1:Int)=0∧(Int.gcd n1 d1:Int)≠0 then d1.fdiv (Int.gcd n1 d1:Int) else 0)) 3 E E E aL E Lr)<|Wn<|am<|tb 3 E (y:=(rmk n d)) (by subst hn1 hd1;have:=rmk_exact (n:=n) hd;rw [←Prod.eta (rmk n d),←this.1,←this.2]) ?_
 exact Qd E (a5 E (ac 3 E) aL ak) ⟨E,E⟩
theorem c_rat_Make (n d:Int):Fn Tryz.prog 134 [kZ.is n,kZ.is d] (VP.tup [kRC.is (if d=0 then (0,0) else rmk n d),kN6.is (if d=0 then 11 else 0)]):=by
 refine aK Tryz.func134 E E fun m w=>Cr<|a6 .n E fun b1=>a6 .n E fun b2=>a8 .n bU fun b3=>Wa E<|Wn<|aa<|Cr<|Ws (ae E (ac 1 E) Li ab E)<|Ws (f1 dp E (dk d))<|Ws (bR E E)<|Wn ?_
 refine aB E (fun h_t8=>?_)<|fun h_t8=>?_
 ·
  refine Cr<|Ws (cH eL E bH (.nil _))<|aG .n (aD (l:=kRC) (u:=(0,0)) 0 E E E aL E Lr)<|Wa E<|Wn<|am<|aQ ?_
  have hd:d=0:=Int.sign_eq_zero_iff_zero.1 h_t8
  refine tb 0 E (y:=(if d=0 then (0,0) else rmk n d)) (by rw [if_pos hd])<|tl 5 E (y:=(if d=0 then 11 else 0)) (by rw [if_pos hd]) ?_
  exact Qd E (a5 E (ac 0 E) aL (ar E ak)) ⟨E,E⟩
 ·
  refine Ck<|Cr<|Ws (ae E (ac 2 E) Li ab E)<|Ws (ae E (ac 1 E) Li ab E)<|Ws (f2 fn136 E E (c_rat_made n d (fun h=>h_t8 (by rw [h];rfl))))<|aG .n (aD (l:=kRC) (u:=rmk n d) 0 E E E aL E Lr)<|Wa E<|Wn<|am ?_
  have hd:¬d=0:=fun h=>h_t8 (by rw [h];rfl)
  refine tb 0 E (y:=(if d=0 then (0,0) else rmk n d)) (by rw [if_neg hd])<|tl 5 E (y:=(if d=0 then 11 else 0)) (by rw [if_neg hd]) ?_
  exact Qd E (a5 E (ac 0 E) aL (ar E ak)) ⟨E,E⟩
theorem c_ref03_Make (n d:Int) (hd:d≠0):Fn Tryz.prog 138 [kZ.is n,kZ.is d] (kRC.is (rmk n d)):=by
 refine aK Tryz.func138 E E fun m w=>aR (i:=0) E dF fun hsn=>aR (i:=1) E dF fun hsd=>Cr<|a6 .n E fun b1=>a6 .n E fun b2=>a8 .n bU fun b3=>Wr<|Ws (ae E (ac 2 E) Li ab E)<|Ws (f1 fn113 E (eh n))<|Ax (l:=kC) (u:=n) aZ E ab (fun _=>E) Lr fun b4=>Wr<|Ws (ae E (ac 2 E) Li ab E)<|Ws (f1 fn113 E (eh d))<|Ax (l:=kC) (u:=d) aZ E ab (fun _=>E) Lr fun b5=>?_
 refine Wn ?_
 refine CW.cut2 (fun (n1:Int) (d1:Int)=>n1=n*d.sign∧d1=(d.natAbs:Int)∧Sm n1∧Sm d1) (fun (n1:Int) (d1:Int)=>[(4,VP.pt b3 0),(5,VP.pt b4 0),(6,VP.pt b5 0)]) (fun (n1:Int) (d1:Int)=>[OB.box b5 29 kC d1,OB.box b4 29 kC n1,OB.box b3 31 kRC (0,0)]) ?_ ?_
 ·
  refine Cr<|Ws (ae E (ac 0 E) Li ab E)<|Ws (aF fn88 (aq E (aJ (by assumption)) ax) (dO d))<|Ws (aS E E)<|Wn ?_
  refine aB E (fun h_t20=>?_)<|fun h_t20=>?_
  ·
   refine Cr<|Ws (ae E (ac 1 E) Li ab E)<|Ws (aF fn209 (aq E (aJ (by assumption)) ax) (fb n))<|aG .n (aD (l:=kC) (u:=-n) 1 E E E ab E Lr)<|Wn<|ah<|Ws (ae E (ac 0 E) Li ab E)<|Ws (aF fn209 (aq E (aJ (by assumption)) ax) (fb d))<|aG .n (aD (l:=kC) (u:=-d) 0 E E E ab E Lr)<|aj ?_
   exact eK (-n) (-d) ⟨(mul_sign_neg (sgn_lt0 h_t20)).symm,by have:=sgn_lt0 h_t20;omega,ec hsn,ec hsd⟩ (Z E (Z E (Z E ai)))<|aW<|OS.keep<|OS.keep<|OS.keep<|OS.skip<|OS.skip OS.nil
  ·
   refine cc ?_
   exact eK n d ⟨(mul_sign_pos (by have:=sgn_ge0 h_t20;omega)).symm,by have:=sgn_ge0 h_t20;omega,hsn,hsd⟩ (Z E (Z E (Z E ai)))<|aW<|OS.keep<|OS.keep<|OS.keep<|OS.skip<|OS.skip OS.nil
 intro n1 d1 ⟨hn1,hd1,hs1,hs2⟩
 have hg:Nat.gcd (nval (canon n1).2) (nval (canon d1).2)=Int.gcd n d:=by rw [canon_nval,canon_nval,←gcd_sign hd,hn1,hd1];rfl
 have hgn:=gcd_ne (n:=n) hd
 have hl1:=canon_len hs1
 have hl2:=canon_len hs2
 have hgl:(limbs (Nat.gcd (nval (canon n1).2) (nval (canon d1).2))).length≤17179869184:=by rw [hg];exact canon_len (z:=((Int.gcd n d:Nat):Int)) (Sm_le hsd (gcd_le_abs hd))
 refine dJ (b':=OB.box b5 29 kI ((canon d1).1,(canon d1).2)) 0 E OB.C_I<|dJ (b':=OB.box b4 29 kI ((canon n1).1,(canon n1).2)) 1 E OB.C_I<|Cr<|Ws (aM E bK E)<|Ws (ae (p:=kN.is ((canon n1).2)) E (ac 1 E) (aN Li) bM E)<|Ws (aM E bK E)<|Ws (ae (p:=kN.is ((canon d1).2)) E (ac 0 E) (aN Li) bM E)<|Ws (f2 fn210 E E (c_ref01_Gcd ((canon n1).2) ((canon d1).2) (by omega) (by omega)))<|Wa E<|Wr<|Ws (aM E bK E)<|Ws (ae (p:=kN.is ((canon n1).2)) E (ac 1 E) (aN Li) bM E)<|Wm E<|Ws (f2 fn211 E E (fc ((canon n1).2) (limbs (Nat.gcd (nval ((canon n1).2)) (nval ((canon d1).2)))) (by omega) (by omega)))<|Wm E<|Ws (aH E E)<|Ws (aH E E)<|Ws (aH E E)<|Wa E<|Wa E ?_
 refine Wa E<|Wn<|aa<|tl 8 E (y:=(limbs (n1.natAbs/Int.gcd n d))) (by rw [nval_limbs,hg,canon_nval]) ?_
 have hlx:(limbs (n1.natAbs/Int.gcd n d)).length≤17179869184:=Nat.le_trans (limbs_mono (Nat.div_le_self _ _)) hl1
 refine ah<|Ws (aM E bK E)<|Ws (ae (p:=kN.is ((canon d1).2)) E (ac 0 E) (aN Li) bM E)<|Wm E<|Ws (f2 fn211 E E (fc ((canon d1).2) (limbs (Nat.gcd (nval ((canon n1).2)) (nval ((canon d1).2)))) (by omega) (by omega)))<|Wm E<|Ws (aH E E)<|Ws (aH E E)<|Ws (aH E E)<|Wa E<|Wa E<|Wa E<|Wn<|aa<|tl 11 E (y:=(limbs (d1.natAbs/Int.gcd n d))) (by rw [nval_limbs,hg,canon_nval])<|ah<|Ws (aM E cw E)<|Ws (ae (p:=kBool.is ((canon n1).1)) E (ac 1 E) (aU Li) cy E)<|Wm E<|Ws (cH eo E (cU E (cU E bH)) (.cons E (aU Li) (.cons E (aN Li) (.nil _))))<|Ws (aF fn113 (aq E (kI_Z E (by omega)) ax) (eh (ival ((canon n1).1,(limbs (n1.natAbs/Int.gcd n d))))))<|tl 50 E (y:=(rmk n d).1) (by rw [hn1];exact ival_div (by omega) (by rw [←gcd_sign hd];exact Int.gcd_dvd_left ..))<|Wm E ?_
 refine Ws (cH eo E (cU E bH) (.cons E (aN Li) (.nil _)))<|cC (q:=kC.is ((rmk n d).2)) 52 E (kI_C (rmk_den hd hd1))<|Ws (cH eL E (cU E (cU E bH)) (.cons E (aU Li) (.cons E (aN Li) (.nil _))))<|aG .n (aD (l:=kRC) (u:=((rmk n d).1,(rmk n d).2)) 2 E E E aL E Lr)<|Wn<|am ?_
 exact Qd E (dE E (ac 2 E) aL (ag (y:=rmk n d) (by rfl)) ak) ⟨E,E⟩
abbrev eg:=@c_ref03_Make
theorem c_ref03_one  : Fn Tryz.prog 114 [] (kC.is 1):=by
 refine aK Tryz.func114 E E fun m w=>Cr<|a8 .n aZ fun b1=>Wr<|Ws (aF dj (aq E (cD (by omega)) ax) (dh 1))<|aG .n (aD (l:=kC) (u:=1) 0 E E E ab E Lr)<|Wn<|am ?_
 exact Qd E (a5 E (ac 0 E) ab ak) ⟨E,E⟩
theorem c_ref03_Of (z:Int):Fn Tryz.prog 52 [kZ.is z] (kRC.is (rq (z:Rat))):=by
 refine aK Tryz.func52 E E fun m w=>aR (i:=0) E dF fun hsz=>Cr<|a6 .n E fun b1=>a8 .n bU fun b2=>Wr<|Ws (ae E (ac 1 E) Li ab E)<|Ws (f1 fn113 E (eh z))<|Ws (aF fn114 ax (c_ref03_one))<|Ws (cH eL E (cU E (cU E bH)) (.cons E (aU Li) (.cons E (aN Li) (.nil _))))<|aG .n (aD (l:=kRC) (u:=(z,1)) 0 E E E aL E Lr)<|Wn<|am<|tb 0 E (y:=(rq (z:Rat))) (rq_int z).symm ?_
 exact Qd E (a5 E (ac 0 E) aL ak) ⟨E,E⟩
abbrev ez:=@c_ref03_Of
theorem c_ref03_Neg (n:Nat) (p:Rat) (hp:RZ n p) (hn:n≤68719476736):Fn Tryz.prog 174 [kRC.is (rq p)] (kRC.is (rq (-p))):=by
 refine aK Tryz.func174 E E fun m w=>Cr<|a6 .n E fun b1=>a8 .n bU fun b2=>Wn<|aa ?_
 refine ba (Γ:=[.fr (VP.pt b1 0),.fr (kC.is ((rq p).1)),.fr (kC.is (-((rq p).1))),.fr (VP.pt b1 2),.fr (kC.is ((rq p).2)),.fr (kRC.is (rmk (-((rq p).1)) ((rq p).2)))]) (J E (fun N=>aM E db E) (J E (fun N=>ae E (mN N 1 E) (aU Li) ab E) (J E (fun N=>aF fn209 (aq E (aJ (hp.a.sm (by omega))) ax) (fb ((rq p).1))) (J E (fun N=>aM E cX E) (J E (fun N=>ae E (mN N 1 E) (aN Li) ab E) (J E (fun N=>aF fn138 (aq E (aJ (hp.a.neg.sm (by omega))) (aq E (aJ (hp.b.sm (by omega))) ax)) (eg (-((rq p).1)) ((rq p).2) (ej p))) oz))))))<|fun σ1=>?_
 refine aG .n (aD (l:=kRC) (u:=rmk (-((rq p).1)) ((rq p).2)) 0 E E E aL E Lr)<|Wn<|am<|tb 0 E (y:=(rq (-p))) (rq_neg p) ?_
 exact Qd E (a5 E (ac 0 E) aL ak) ⟨E,E⟩
theorem c_ref03_Add (n:Nat) (p q:Rat) (hp:RZ n p) (hq:RZ n q) (hn:n≤68719476736):Fn Tryz.prog 74 [kRC.is (rq p),kRC.is (rq q)] (kRC.is (rq (p+q))):=by
 refine aK Tryz.func74 E E fun m w=>Cr<|a6 .n E fun b1=>a6 .n E fun b2=>a8 .n bU fun b3=>Wr<|Ws (aM E db E)<|Ws (ae E (ac 2 E) (aU Li) ab E)<|Ws (aM E cX E)<|Ws (ae E (ac 1 E) (aN Li) ab E)<|Ws (aF dm (aq E (aJ (hp.a.sm (by omega))) (aq E (aJ (hq.b.sm (by omega))) ax)) (dl ((rq p).1) ((rq q).2)))<|Ax (l:=kC) (u:=((rq p).1)*((rq q).2)) aZ E ab (fun _=>E) Lr fun b4=>Wr<|Ws (aM E db E)<|Ws (ae E (ac 2 E) (aU Li) ab E)<|Ws (aM E cX E) ?_
 refine Ws (ae E (ac 3 E) (aN Li) ab E)<|Ws (aF dm (aq E (aJ (hq.a.sm (by omega))) (aq E (aJ (hp.b.sm (by omega))) ax)) (dl ((rq q).1) ((rq p).2)))<|Ax (l:=kC) (u:=((rq q).1)*((rq p).2)) aZ E ab (fun _=>E) Lr fun b5=>Wn<|aa ?_
 refine ba (Γ:=[.fr (kC.is (((rq p).1)*((rq q).2))),.fr (kC.is (((rq q).1)*((rq p).2))),.fr (kC.is ((((rq p).1)*((rq q).2))+(((rq q).1)*((rq p).2)))),.fr (VP.pt b1 2),.fr (kC.is ((rq p).2)),.fr (VP.pt b2 2),.fr (kC.is ((rq q).2)),.fr (kC.is (((rq p).2)*((rq q).2))),.fr (kRC.is (rmk ((((rq p).1)*((rq q).2))+(((rq q).1)*((rq p).2))) (((rq p).2)*((rq q).2))))]) (J E (fun N=>ae E (mN N 1 E) Li ab E) (J E (fun N=>ae E (mN N 0 E) Li ab E) (J E (fun N=>aF fn127 (aq E (aJ ((hp.a.mul hq.b).sm (by omega))) (aq E (aJ ((hq.a.mul hp.b).sm (by omega))) ax)) (eu (((rq p).1)*((rq q).2)) (((rq q).1)*((rq p).2)))) (J E (fun N=>aM E cX E) (J E (fun N=>ae E (mN N 4 E) (aN Li) ab E) (J E (fun N=>aM E cX E) (J E (fun N=>ae E (mN N 3 E) (aN Li) ab E) (J E (fun N=>aF dm (aq E (aJ (hp.b.sm (by omega))) (aq E (aJ (hq.b.sm (by omega))) ax)) (dl ((rq p).2) ((rq q).2))) (J E (fun N=>aF fn138 (aq E (aJ (((hp.a.mul hq.b).add (hq.a.mul hp.b)).sm (by omega))) (aq E (aJ ((hp.b.mul hq.b).sm (by omega))) ax)) (eg ((((rq p).1)*((rq q).2))+(((rq q).1)*((rq p).2))) (((rq p).2)*((rq q).2)) (Int.mul_ne_zero (ej p) (ej q)))) oz)))))))))<|fun σ1=>?_
 refine aG .n (aD (l:=kRC) (u:=rmk ((((rq p).1)*((rq q).2))+(((rq q).1)*((rq p).2))) (((rq p).2)*((rq q).2))) 2 E E E aL E Lr)<|Wn<|am<|tb 2 E (y:=(rq (p+q))) (rq_add p q) ?_
 exact Qd E (a5 E (ac 2 E) aL ak) ⟨E,E⟩
theorem c_ref03_Mul (n:Nat) (p q:Rat) (hp:RZ n p) (hq:RZ n q) (hn:n≤68719476736):Fn Tryz.prog 104 [kRC.is (rq p),kRC.is (rq q)] (kRC.is (rq (p*q))):=by
 refine aK Tryz.func104 E E fun m w=>Cr<|a6 .n E fun b1=>a6 .n E fun b2=>a8 .n bU fun b3=>Wn<|aa ?_
 refine ba (Γ:=[.fr (VP.pt b1 0),.fr (kC.is ((rq p).1)),.fr (VP.pt b2 0),.fr (kC.is ((rq q).1)),.fr (kC.is (((rq p).1)*((rq q).1))),.fr (VP.pt b1 2),.fr (kC.is ((rq p).2)),.fr (VP.pt b2 2),.fr (kC.is ((rq q).2)),.fr (kC.is (((rq p).2)*((rq q).2))),.fr (kRC.is (rmk (((rq p).1)*((rq q).1)) (((rq p).2)*((rq q).2))))]) (J E (fun N=>aM E db E) (J E (fun N=>ae E (mN N 2 E) (aU Li) ab E) (J E (fun N=>aM E db E) (J E (fun N=>ae E (mN N 1 E) (aU Li) ab E) (J E (fun N=>aF dm (aq E (aJ (hp.a.sm (by omega))) (aq E (aJ (hq.a.sm (by omega))) ax)) (dl ((rq p).1) ((rq q).1))) (J E (fun N=>aM E cX E) (J E (fun N=>ae E (mN N 2 E) (aN Li) ab E) (J E (fun N=>aM E cX E) (J E (fun N=>ae E (mN N 1 E) (aN Li) ab E) (J E (fun N=>aF dm (aq E (aJ (hp.b.sm (by omega))) (aq E (aJ (hq.b.sm (by omega))) ax)) (dl ((rq p).2) ((rq q).2))) (J E (fun N=>aF fn138 (aq E (aJ ((hp.a.mul hq.a).sm (by omega))) (aq E (aJ ((hp.b.mul hq.b).sm (by omega))) ax)) (eg (((rq p).1)*((rq q).1)) (((rq p).2)*((rq q).2)) (Int.mul_ne_zero (ej p) (ej q)))) oz)))))))))))<|fun σ1=>?_
 refine aG .n (aD (l:=kRC) (u:=rmk (((rq p).1)*((rq q).1)) (((rq p).2)*((rq q).2))) 0 E E E aL E Lr)<|Wn<|am<|tb 0 E (y:=(rq (p*q))) (rq_mul p q) ?_
 exact Qd E (a5 E (ac 0 E) aL ak) ⟨E,E⟩
abbrev ei:=@c_ref03_Mul
theorem c_ref03_Div (n:Nat) (p q:Rat) (hp:RZ n p) (hq:RZ n q) (hn:n≤68719476736) (h0:q≠0):Fn Tryz.prog 76 [kRC.is (rq p),kRC.is (rq q)] (kRC.is (rq (p/q))):=by
 refine aK Tryz.func76 E E fun m w=>Cr<|a6 .n E fun b1=>a6 .n E fun b2=>a8 .n bU fun b3=>Wn<|aa ?_
 refine ba (Γ:=[.fr (VP.pt b1 0),.fr (kC.is ((rq p).1)),.fr (VP.pt b2 2),.fr (kC.is ((rq q).2)),.fr (kC.is (((rq p).1)*((rq q).2))),.fr (VP.pt b1 2),.fr (kC.is ((rq p).2)),.fr (VP.pt b2 0),.fr (kC.is ((rq q).1)),.fr (kC.is (((rq p).2)*((rq q).1))),.fr (kRC.is (rmk (((rq p).1)*((rq q).2)) (((rq p).2)*((rq q).1))))]) (J E (fun N=>aM E db E) (J E (fun N=>ae E (mN N 2 E) (aU Li) ab E) (J E (fun N=>aM E cX E) (J E (fun N=>ae E (mN N 1 E) (aN Li) ab E) (J E (fun N=>aF dm (aq E (aJ (hp.a.sm (by omega))) (aq E (aJ (hq.b.sm (by omega))) ax)) (dl ((rq p).1) ((rq q).2))) (J E (fun N=>aM E cX E) (J E (fun N=>ae E (mN N 2 E) (aN Li) ab E) (J E (fun N=>aM E db E) (J E (fun N=>ae E (mN N 1 E) (aU Li) ab E) (J E (fun N=>aF dm (aq E (aJ (hp.b.sm (by omega))) (aq E (aJ (hq.a.sm (by omega))) ax)) (dl ((rq p).2) ((rq q).1))) (J E (fun N=>aF fn138 (aq E (aJ ((hp.a.mul hq.b).sm (by omega))) (aq E (aJ ((hp.b.mul hq.a).sm (by omega))) ax)) (eg (((rq p).1)*((rq q).2)) (((rq p).2)*((rq q).1)) (Int.mul_ne_zero (ej p) (rq_num_ne h0)))) oz)))))))))))<|fun σ1=>?_
 refine aG .n (aD (l:=kRC) (u:=rmk (((rq p).1)*((rq q).2)) (((rq p).2)*((rq q).1))) 0 E E E aL E Lr)<|Wn<|am<|tb 0 E (y:=(rq (p/q))) (rq_div p h0) ?_
 exact Qd E (a5 E (ac 0 E) aL ak) ⟨E,E⟩
theorem c_ref03_Sub (n:Nat) (p q:Rat) (hp:RZ n p) (hq:RZ n q) (hn:n≤68719476736):Fn Tryz.prog 103 [kRC.is (rq p),kRC.is (rq q)] (kRC.is (rq (p-q))):=by
 refine aK Tryz.func103 E E fun m w=>Cr<|a6 .n E fun b1=>a6 .n E fun b2=>a8 .n bU fun b3=>Wn<|aa ?_
 refine ba (Γ:=[.fr (kRC.is (rq p)),.fr (kRC.is (rq q)),.fr (kRC.is (rq (-q))),.fr (kRC.is (rq (p+(-q))))]) (J E (fun N=>ae E (mN N 2 E) Li aL E) (J E (fun N=>ae E (mN N 1 E) Li aL E) (J E (fun N=>f1 fn174 E (c_ref03_Neg n q hq hn)) (J E (fun N=>f2 fn74 E E (c_ref03_Add n p (-q) hp hq.neg hn)) oz))))<|fun σ1=>?_
 refine aG .n (aD (l:=kRC) (u:=rq (p+(-q))) 0 E E E aL E Lr)<|Wn<|am<|tb 0 E (y:=(rq (p-q))) (by rw [Rat.sub_eq_add_neg]) ?_
 exact Qd E (a5 E (ac 0 E) aL ak) ⟨E,E⟩
end Fw
namespace Fw
open Go
def dotN (u v:List Int):Nat→Int
  | 0=>0
  | i+1=>dotN u v i+u.getD i 0*v.getD i 0
def dotV (u v:List Int):Int:=dotN u v u.length
def SzL (n:Nat) (u:List Int):Prop:=∀i,Sz n (u.getD i 0)
theorem Sz.add1 {n:Nat} {x y:Int} (h:Sz n x) (k:Sz n y):Sz (n+1) (x+y):=by
  have:=Sz.max h k
  have e:Nat.max n n=n:=Nat.max_self n
  rwa [e] at this
abbrev eY:=@Sz.add1
theorem dotN_Sz {n m u v} (hu:SzL n u) (hv:SzL m v):∀i,Sz (n+m+i) (dotN u v i)
  | 0=>Sz.zero _
  | i+1=>by
    have h1:=dotN_Sz hu hv i
    have h2:=((hu i).mul (hv i)).up (show n+m≤n+m+i by omega)
    exact Sz.add1 h1 h2
end Fw
namespace Fw
open Go Go.Proofs
end Fw
namespace Fw
open Go
theorem gde {α:Type} (l:List α) (d:α) {i:Nat} (h:i<l.length):l.getD i d=l[i]:=by simp [List.getD,h]
def rect (b:List (List Int)):Bool:=b.all (fun r=>r.length==(b.getD 0 []).length)
theorem rect_iff {b:List (List Int)}:rect b=true↔∀i,i<b.length→(b.getD i []).length=(b.getD 0 []).length:=by
  simp only [rect,List.all_eq_true,beq_iff_eq]
  constructor
  · intro h i hi
    rw [gde _ _ hi];exact h _ (List.getElem_mem hi)
  · intro h r hr
    obtain ⟨i,hi,rfl⟩:=List.mem_iff_getElem.mp hr
    rw [←h i hi,gde _ _ hi]
theorem rect_no {b:List (List Int)} {i:Nat} (hi:i<b.length) (h:(b.getD i []).length≠(b.getD 0 []).length):¬rect b=true:=fun e=>h (rect_iff.1 e i hi)
def shN (b:List (List Int)):Int:=if rect b=true then (b.length:Int) else 0
def shM (b:List (List Int)):Int:=if rect b=true then ((b.getD 0 []).length:Int) else 0
def shE (b:List (List Int)):Int:=if rect b=true then 0 else 8
theorem sh_no {b:List (List Int)} {i:Nat} (hi:i<b.length) (h:(b.getD i []).length≠(b.getD 0 []).length):shN b=0∧shM b=0∧shE b=8:=by
  have:=rect_no hi h
  simp only [shN,shM,shE,if_neg this];simp
theorem sh_yes {b:List (List Int)} (h:∀i,i<b.length→(b.getD i []).length=(b.getD 0 []).length):shN b=(b.length:Int)∧shM b=((b.getD 0 []).length:Int)∧shE b=0:=by
  have:=rect_iff.2 h
  simp only [shN,shM,shE,if_pos this];simp
theorem sh_nil {b:List (List Int)} (h:b.length=0):shN b=0∧shM b=0∧shE b=0:=by
  have:b=[]:=List.eq_nil_of_length_eq_zero h
  subst this;decide
def ordV:List Int→List Int→Int
  | [],[]=>0
  | [],_::_=>-1
  | _::_,[]=>1
  | x::u,y::v=>if (x-y).sign≠0 then (x-y).sign else ordV u v
theorem ordV_hit {u v:List Int} {i:Nat} (hi:i<u.length) (hj:i<v.length) (h:(u.getD i 0-v.getD i 0).sign≠0):ordV (u.drop i) (v.drop i)=(u.getD i 0-v.getD i 0).sign:=by
  rw [List.drop_eq_getElem_cons hi,List.drop_eq_getElem_cons hj,ordV,←gde _ 0 hi,←gde _ 0 hj,if_pos h]
theorem ordV_next {u v:List Int} {i:Nat} (hi:i<u.length) (hj:i<v.length) (h:¬(u.getD i 0-v.getD i 0).sign≠0):ordV (u.drop i) (v.drop i)=ordV (u.drop (i+1)) (v.drop (i+1)):=by
  rw [List.drop_eq_getElem_cons hi,List.drop_eq_getElem_cons hj,ordV,←gde _ 0 hi,←gde _ 0 hj,if_neg h]
theorem ordV_end {u v:List Int} {i:Nat} (h:u.length≤i∨v.length≤i) (hu:i≤u.length) (hv:i≤v.length):ordV (u.drop i) (v.drop i)=if u.length<v.length then -1 else if v.length<u.length then 1 else 0:=by
  by_cases h1:i<u.length
  · have h2:i=v.length:=by omega
    rw [List.drop_eq_getElem_cons h1,List.drop_eq_nil_of_le (show v.length≤i by omega),ordV,if_neg (by omega),if_pos (by omega)]
  · by_cases h2:i<v.length
    · rw [List.drop_eq_getElem_cons h2,List.drop_eq_nil_of_le (show u.length≤i by omega),ordV,if_pos (by omega)]
    · rw [List.drop_eq_nil_of_le (show u.length≤i by omega),List.drop_eq_nil_of_le (show v.length≤i by omega),ordV,if_neg (by omega),if_neg (by omega)]
theorem ordV_zero:∀{u v:List Int},ordV u v=0↔u=v
  | [],[]=>by simp [ordV]
  | [],_::_=>by simp [ordV]
  | _::_,[]=>by simp [ordV]
  | x::u,y::v=>by
    simp only [ordV]
    by_cases h:(x-y).sign=0
    · rw [if_neg (by omega),ordV_zero]
      have:=Int.sign_eq_zero_iff_zero.1 h
      have:x=y:=by omega
      subst this;simp
    · rw [if_pos h]
      constructor
      · intro e;exact absurd e h
      · intro e;cases e;exact absurd (by simp) h
end Fw
namespace Fw
open Go Go.Proofs
theorem c_ref04_Order (n:Nat) (u v:List Int) (hu:SzL n u) (hv:SzL n v) (hn:n+n+1≤549755813888):Fn Tryz.prog 63 [kVZ.is u,kVZ.is v] (kN6.is (ordV u v)):=by
 refine aK Tryz.func63 E E fun m w=>aR (i:=0) E bu fun hB=>aR (i:=1) E bu fun hC=>Cr<|Wa E<|Wn<|aa<|Cr<|Wa E<|Wn<|aw<|bN (fun (i:Nat)=>i≤u.length∧i≤v.length∧ordV (u.drop i) (v.drop i)=ordV u v) (fun (i:Nat)=>[(0,kVZ.is u),(1,kVZ.is v),(5,kN6.is (i:Int))]) (fun (i:Nat)=>[]) (fun (i:Nat)=>u.length-i) 0 ⟨Nat.zero_le _,Nat.zero_le _,E⟩ (Z E (Z E (ao E (ag (y:=(0:Int)) (by rfl)) ai))) (au _) ?_
 intro i ⟨hi,hj,hl⟩
 refine aa<|Cr<|Wm E<|Wm E<|Ws (aA E U23)<|Ws (aS E E)<|Wm E ?_
 refine bV 11 E (fun h_t11=>?_)<|fun h_t11=>?_
 ·
  refine Wg E E (bj E)<|Wg E E (bj E)<|Wg E E (aA E U23)<|Wg E E (aS E E)<|Ws (ch E E)<|Wn ?_
  refine aB E (fun h_t16=>?_)<|fun h_t16=>?_
  ·
   refine Ck<|aa<|aw<|aa ?_
   refine ba (Γ:=[.fr (kVZ.is u),.fr (kN6.is (i:Int)),.fr (VP.pim kZ (u.getD i 0)),.fr (kZ.is (u.getD i 0)),.fr (kVZ.is v),.fr (kN6.is (i:Int)),.fr (VP.pim kZ (v.getD i 0)),.fr (kZ.is (v.getD i 0)),.fr (kN6.is (((u.getD i 0)-(v.getD i 0)).sign))]) (om E E (om E E (J E (fun N=>aT i E E U23 ab E (v:=(u.getD i 0)) (gd 0 (by omega))) (J E (fun N=>aO E ab) (om E E (om E E (J E (fun N=>aT i E E U23 ab E (v:=(v.getD i 0)) (gd 0 (by omega))) (J E (fun N=>aO E ab) (J E (fun N=>f2 fn129 E E (c_ref02_Cmp (u.getD i 0) (v.getD i 0) (((hu i).sub (hv i)).sm (by omega)))) oz)))))))))<|fun σ1=>?_
   refine Wa E<|Wr<|Wm E<|Ws (bt E E)<|Wn ?_
   refine aB E (fun h_t29=>?_)<|fun h_t29=>?_
   ·
    refine Cr<|Wm E<|Wa E<|Wn<|am<|bE<|aQ<|aQ<|bE<|aQ<|tl 4 E (y:=(ordV u v)) (by rw [←hl];exact (ordV_hit (by omega) (by omega) h_t29).symm) ?_
    exact Qd E (ar E ak) ⟨E,E⟩
   ·
    refine cc<|Qb<|ah<|Wm E<|Ws (aI E E (c:=((i:Int)+1)) (ay (by omega)))<|Wa E<|aj ?_
    exact bG (i+1) (by omega) ⟨by omega,by omega,by rw [←ordV_next (by omega) (by omega) h_t29];exact hl⟩ (Z E (Z E (ao E (ag (y:=(((i+1):Nat):Int)) (by rfl)) ai)))<|au _
  ·
   refine Ex<|aa<|aw<|Cr<|Wm E<|Ws (aA E U23)<|Wm E<|Ws (aA E U23)<|Ws (aS E E)<|Wa E<|Wn ?_
   refine aB E (fun h_t31=>?_)<|fun h_t31=>?_
   ·
    refine Cr<|Wa E<|Wn<|am<|bE<|aQ ?_
    exact Qd E (cz E (ag (y:=ordV u v) (by omega)) ak) ⟨E,E⟩
   ·
    refine Cr<|Wm E<|Ws (aA E U23)<|Wm E<|Ws (aA E U23)<|Ws (cq E E)<|Wa E<|Wn ?_
    refine aB E (fun h_t37=>?_)<|fun h_t37=>?_
    ·
     refine Cr<|Wa E<|Wn<|am<|bE<|aQ ?_
     exact Qd E (cz E (ag (y:=ordV u v) (by rw [←hl,ordV_end (by omega) (by omega) (by omega)];split <;> first | rfl | omega | (split <;> first | rfl | omega))) ak) ⟨E,E⟩
    ·
     refine cc<|Qb<|Cr<|Wa E<|Wn<|am ?_
     exact Qd E (cz E (ag (y:=ordV u v) (by omega)) ak) ⟨E,E⟩
 ·
  refine Kf E E<|Kf E E<|Kf E E<|Kf E E<|Ws (cb E E)<|Wn<|df E<|Ex<|aa<|aw<|Cr<|Wm E<|Ws (aA E U23)<|Wm E<|Ws (aA E U23)<|Ws (aS E E)<|Wa E<|aj ?_
  refine bS ?_
  refine aB E (fun h_t31=>?_)<|fun h_t31=>?_
  ·
   refine Cr<|Wa E<|Wn<|am<|bE<|aQ ?_
   exact Qd E (cz E (ag (y:=ordV u v) (by rw [←hl,ordV_end (by omega) (by omega) (by omega)];split <;> first | rfl | omega | (split <;> first | rfl | omega))) ak) ⟨E,E⟩
  ·
   refine Cr<|Wm E<|Ws (aA E U23)<|Wm E<|Ws (aA E U23)<|Ws (cq E E)<|Wa E<|Wn ?_
   refine aB E (fun h_t37=>?_)<|fun h_t37=>?_
   ·
    refine Cr<|Wa E<|Wn<|am<|bE<|aQ ?_
    exact Qd E (cz E (ag (y:=ordV u v) (by omega)) ak) ⟨E,E⟩
   ·
    refine cc<|Qb<|Cr<|Wa E<|Wn<|am ?_
    exact Qd E (cz E (ag (y:=ordV u v) (by rw [←hl,ordV_end (by omega) (by omega) (by omega)];split <;> first | rfl | omega | (split <;> first | rfl | omega))) ak) ⟨E,E⟩
theorem c_mat_Shape (b:List (List Int)):Fn Tryz.prog 82 [kMZ.is b] (VP.tup [kN6.is (shN b),kN6.is (shM b),kN6.is (shE b)]):=by
 refine aK Tryz.func82 E E fun m w=>aR (i:=0) E bu fun hB=>Cr<|Wa E<|Wa E<|Wa E<|Wn<|aa<|Cr<|Wm E<|Ws (aA E U22)<|Ws (bR E E)<|Wn ?_
 refine aB E (fun h_t9=>?_)<|fun h_t9=>?_
 ·
  refine Cr<|Wa E<|Wa E<|Wa E<|Wn<|am<|aQ ?_
  have hx:=sh_nil (b:=b) (by omega)
  refine tl 2 E (y:=(shN b)) (by rw [hx.1])<|tl 3 E (y:=(shM b)) (by rw [hx.2.1])<|tl 4 E (y:=(shE b)) (by rw [hx.2.2]) ?_
  exact Qd E (ar E (ar E (ar E ak))) ⟨E,E⟩
 ·
  refine Ck<|aa<|Cr<|Wm E<|Ws (aA E U22)<|Wm E<|Wn<|aw<|bN (fun (i:Nat)=>i≤b.length∧∀j,j<i→(b.getD j []).length=(b.getD 0 []).length) (fun (i:Nat)=>[(0,kMZ.is b),(10,kMZ.is b),(11,kN6.is (b.length:Int)),(12,kN6.is (i:Int))]) (fun (i:Nat)=>[]) (fun (i:Nat)=>b.length-i) 0 ⟨Nat.zero_le _,fun j hj=>absurd hj (by omega)⟩ (Z E (Z E (Z E (ao E (ag (y:=(0:Int)) (by rfl)) ai)))) (au _) ?_
  intro i ⟨hi,hl⟩
  refine Cr<|Ws (aS E E)<|Wn<|aa ?_
  refine aB E (fun h_t13=>?_)<|fun h_t13=>?_
  ·
   refine Ck<|aa<|aw<|Cr<|Ws (aT i E E U22 aE E (v:=(b.getD i [])) (gd [] (by omega)))<|Ws (aO E aE)<|Wa E<|Wr<|Wm E<|Ws (aA E U23)<|Wm E<|Ws (aT 0 E E U22 aE E (v:=(b.getD 0 [])) (gd [] (by omega)))<|Ws (aO E aE)<|Ws (aA E U23)<|Ws (bt E E)<|Wn ?_
   refine aB E (fun h_t22=>?_)<|fun h_t22=>?_
   ·
    refine Cr<|Wa E<|Wa E<|Wa E<|Wn<|am<|bE<|aQ<|aQ<|bE<|aQ ?_
    have hx:=sh_no (b:=b) (i:=i) (by omega) (by omega)
    refine tl 2 E (y:=(shN b)) (by rw [hx.1])<|tl 3 E (y:=(shM b)) (by rw [hx.2.1])<|tl 4 E (y:=(shE b)) (by rw [hx.2.2]) ?_
    exact Qd E (ar E (ar E (ar E ak))) ⟨E,E⟩
   ·
    refine cc<|Qb<|ah<|Ws (aI E E (c:=((i:Int)+1)) (ay (by omega)))<|Wm E<|aj ?_
    exact bG (i+1) (by omega) ⟨by omega,fun j hj=>if e:j=i then by subst e;omega else hl j (by omega)⟩ (Z E (Z E (Z E (ao E (ag (y:=(((i+1):Nat):Int)) (by rfl)) ai))))<|au _
  ·
   refine Ex<|aa ?_
   refine eb [(0,kMZ.is b),(2,kN6.is (b.length:Int)),(3,kN6.is ((b.getD 0 []).length:Int)),(4,kN6.is 0),(10,kMZ.is b),(11,kN6.is (b.length:Int)),(12,kN6.is (i:Int)),(13,kBool.is (decide ((i:Int)<(b.length:Int)))),(24,kMZ.is b),(25,kN6.is (b.length:Int)),(26,kMZ.is b),(27,VP.pim kVZ (b.getD 0 [])),(28,kVZ.is (b.getD 0 [])),(29,kN6.is ((b.getD 0 []).length:Int))] [] ?_ ?_
   ·
    refine dy (by kernel_rfl)<|br 0 E (by kernel_rfl) (by kernel_rfl) (by kernel_rfl) (fun _ _ _ _ _ h=>h) .n (cY E)<|br 2 E (by kernel_rfl) (by kernel_rfl) (by kernel_rfl) (fun _ _ _ _ _ h=>h) .n (cY E) ?_
    refine bv 1 [3] ⟨?_,⟨?_,trivial⟩⟩
    ·
     refine aC E .n (aA E U22) ?_
     refine bv 3 [6] ⟨?_,⟨?_,trivial⟩⟩
     ·
      refine aC E .n (aT 0 E E U22 aE E (v:=(b.getD 0 [])) (gd [] (by omega))) ?_
      refine bv 4 [6] ⟨?_,⟨?_,trivial⟩⟩
      ·
       refine aC E .n (aO E aE) ?_
       refine bv 5 [6] ⟨?_,⟨?_,trivial⟩⟩
       ·
        refine aC E .n (aA E U23)<|az 6<|aC E .n (a7 E)<|az 7<|aC E .n (a7 E)<|az 8<|aC E .n (a7 E)<|bc (by kernel_rfl) ?_
        exact bY (af E E E E (af E E E E (af E E E E (Z E (Z E ai)))))<|au _
       ·
        refine aC E .n (a7 E)<|az 5<|aC E .n (aA E U23)<|az 7<|aC E .n (a7 E)<|az 8<|aC E .n (a7 E)<|bc (by kernel_rfl) ?_
        exact bY (af E E E E (af E E E E (af E E E E (Z E (Z E ai)))))<|au _
      ·
       refine aC E .n (a7 E)<|az 4<|aC E .n (aO E aE)<|az 5<|aC E .n (aA E U23)<|az 7<|aC E .n (a7 E)<|az 8<|aC E .n (a7 E)<|bc (by kernel_rfl) ?_
       exact bY (af E E E E (af E E E E (af E E E E (Z E (Z E ai)))))<|au _
     ·
      refine aC E .n (a7 E)<|az 3<|aC E .n (aT 0 E E U22 aE E (v:=(b.getD 0 [])) (gd [] (by omega)))<|az 4<|aC E .n (aO E aE)<|az 5<|aC E .n (aA E U23)<|az 7<|aC E .n (a7 E)<|az 8<|aC E .n (a7 E)<|bc (by kernel_rfl) ?_
      exact bY (af E E E E (af E E E E (af E E E E (Z E (Z E ai)))))<|au _
    ·
     refine aC E .n (aT 0 E E U22 aE E (v:=(b.getD 0 [])) (gd [] (by omega))) ?_
     refine bv 1 [4] ⟨?_,⟨?_,trivial⟩⟩
     ·
      refine aC E .n (aA E U22) ?_
      refine bv 4 [6] ⟨?_,⟨?_,trivial⟩⟩
      ·
       refine aC E .n (aO E aE) ?_
       refine bv 5 [6] ⟨?_,⟨?_,trivial⟩⟩
       ·
        refine aC E .n (aA E U23)<|az 6<|aC E .n (a7 E)<|az 7<|aC E .n (a7 E)<|az 8<|aC E .n (a7 E)<|bc (by kernel_rfl) ?_
        exact bY (af E E E E (af E E E E (af E E E E (Z E (Z E ai)))))<|au _
       ·
        refine aC E .n (a7 E)<|az 5<|aC E .n (aA E U23)<|az 7<|aC E .n (a7 E)<|az 8<|aC E .n (a7 E)<|bc (by kernel_rfl) ?_
        exact bY (af E E E E (af E E E E (af E E E E (Z E (Z E ai)))))<|au _
      ·
       refine aC E .n (a7 E)<|az 4<|aC E .n (aO E aE)<|az 5<|aC E .n (aA E U23)<|az 7<|aC E .n (a7 E)<|az 8<|aC E .n (a7 E)<|bc (by kernel_rfl) ?_
       exact bY (af E E E E (af E E E E (af E E E E (Z E (Z E ai)))))<|au _
     ·
      refine aC E .n (aO E aE) ?_
      refine bv 1 [5] ⟨?_,⟨?_,trivial⟩⟩
      ·
       refine aC E .n (aA E U22) ?_
       refine bv 5 [6] ⟨?_,⟨?_,trivial⟩⟩
       ·
        refine aC E .n (aA E U23)<|az 6<|aC E .n (a7 E)<|az 7<|aC E .n (a7 E)<|az 8<|aC E .n (a7 E)<|bc (by kernel_rfl) ?_
        exact bY (af E E E E (af E E E E (af E E E E (Z E (Z E ai)))))<|au _
       ·
        refine aC E .n (a7 E)<|az 5<|aC E .n (aA E U23)<|az 7<|aC E .n (a7 E)<|az 8<|aC E .n (a7 E)<|bc (by kernel_rfl) ?_
        exact bY (af E E E E (af E E E E (af E E E E (Z E (Z E ai)))))<|au _
      ·
       refine aC E .n (aA E U23)<|az 1<|aC E .n (aA E U22)<|az 6<|aC E .n (a7 E)<|az 7<|aC E .n (a7 E)<|az 8<|aC E .n (a7 E)<|bc (by kernel_rfl) ?_
       exact bY (af E E E E (af E E E E (af E E E E (Z E (Z E ai)))))<|au _
   refine bS<|am ?_
   have hx:=sh_yes (b:=b) (fun j hj=>hl j (by omega))
   refine tl 2 E (y:=(shN b)) (by rw [hx.1])<|tl 3 E (y:=(shM b)) (by rw [hx.2.1])<|tl 4 E (y:=(shE b)) (by rw [hx.2.2]) ?_
   exact Qd E (ar E (ar E (ar E ak))) ⟨E,E⟩
abbrev eS:=@c_mat_Shape
theorem c_ref04_Shape (b:List (List Int)):Fn Tryz.prog 126 [kMZ.is b] (VP.tup [kN6.is (shN b),kN6.is (shM b),kN6.is (shE b)]):=by
 refine aK Tryz.func126 E E fun m w=>aR (i:=0) E bu fun hB=>Cr<|Wa E<|Wa E<|Wa E<|Wn<|aa<|Cr<|Wa E<|Wn<|aw<|bN (fun (i:Nat)=>i≤b.length∧∀j,j<i→(b.getD j []).length=(b.getD 0 []).length) (fun (i:Nat)=>[(0,kMZ.is b),(5,kN6.is (i:Int))]) (fun (i:Nat)=>[]) (fun (i:Nat)=>b.length-i) 0 ⟨Nat.zero_le _,fun j hj=>absurd hj (by omega)⟩ (Z E (ao E (ag (y:=(0:Int)) (by rfl)) ai)) (au _) ?_
 intro i ⟨hi,hl⟩
 refine aa<|Cr<|Wm E<|Wm E<|Ws (aA E U22)<|Ws (aS E E)<|Wn ?_
 refine aB E (fun h_t9=>?_)<|fun h_t9=>?_
 ·
  refine Ck<|aa<|aw<|aa ?_
  refine ba (Γ:=[.fr (kMZ.is b),.fr (kN6.is (i:Int)),.fr (VP.pim kVZ (b.getD i [])),.fr (kVZ.is (b.getD i [])),.fr (kN6.is ((b.getD i []).length:Int)),.fr (kMZ.is b),.fr (VP.pim kVZ (b.getD 0 [])),.fr (kVZ.is (b.getD 0 [])),.fr (kN6.is ((b.getD 0 []).length:Int)),.fr (kBool.is (decide (((b.getD i []).length:Int)≠((b.getD 0 []).length:Int))))]) (om E E (om E E (J E (fun N=>aT i E E U22 aE E (v:=(b.getD i [])) (gd [] (by omega))) (J E (fun N=>aO E aE) (J E (fun N=>aA E U23) (om E E (J E (fun N=>aT 0 E E U22 aE E (v:=(b.getD 0 [])) (gd [] (by omega))) (J E (fun N=>aO E aE) (J E (fun N=>aA E U23) (J E (fun N=>bt E E) oz))))))))))<|fun σ1=>?_
  refine Wn ?_
  refine aB E (fun h_t21=>?_)<|fun h_t21=>?_
  ·
   refine Cr<|Wa E<|Wa E<|Wa E<|Wn<|am<|bE<|aQ<|aQ<|bE<|aQ ?_
   have hx:=sh_no (b:=b) (i:=i) (by omega) (by omega)
   refine tl 2 E (y:=(shN b)) (by rw [hx.1])<|tl 3 E (y:=(shM b)) (by rw [hx.2.1])<|tl 4 E (y:=(shE b)) (by rw [hx.2.2]) ?_
   exact Qd E (ar E (ar E (ar E ak))) ⟨E,E⟩
  ·
   refine cc<|Qb<|ah<|Wm E<|Ws (aI E E (c:=((i:Int)+1)) (ay (by omega)))<|Wa E<|aj ?_
   exact bG (i+1) (by omega) ⟨by omega,fun j hj=>if e:j=i then by subst e;omega else hl j (by omega)⟩ (Z E (ao E (ag (y:=(((i+1):Nat):Int)) (by rfl)) ai))<|au _
 ·
  refine Ex<|aa<|Cr<|Wm E<|Ws (aA E U22)<|Ws (bR E E)<|Wn ?_
  refine aB E (fun h_t24=>?_)<|fun h_t24=>?_
  ·
   refine Cr<|Wa E<|Wa E<|Wa E<|Wn<|am<|aQ ?_
   have hx:=sh_nil (b:=b) (by omega)
   refine tl 2 E (y:=(shN b)) (by rw [hx.1])<|tl 3 E (y:=(shM b)) (by rw [hx.2.1])<|tl 4 E (y:=(shE b)) (by rw [hx.2.2]) ?_
   exact Qd E (ar E (ar E (ar E ak))) ⟨E,E⟩
  ·
   refine Ck<|aa ?_
   refine eb [(0,kMZ.is b),(2,kN6.is (b.length:Int)),(3,kN6.is ((b.getD 0 []).length:Int)),(4,kN6.is 0),(5,kN6.is (i:Int)),(6,kN6.is (i:Int)),(7,kMZ.is b),(8,kN6.is (b.length:Int)),(9,kBool.is (decide ((i:Int)<(b.length:Int)))),(22,kMZ.is b),(23,kN6.is (b.length:Int)),(24,kBool.is (decide ((b.length:Int)=0))),(25,kMZ.is b),(26,kN6.is (b.length:Int)),(27,kMZ.is b),(28,VP.pim kVZ (b.getD 0 [])),(29,kVZ.is (b.getD 0 [])),(30,kN6.is ((b.getD 0 []).length:Int))] [] ?_ ?_
   ·
    refine dy (by kernel_rfl)<|br 0 E (by kernel_rfl) (by kernel_rfl) (by kernel_rfl) (fun _ _ _ _ _ h=>h) .n (cY E)<|br 2 E (by kernel_rfl) (by kernel_rfl) (by kernel_rfl) (fun _ _ _ _ _ h=>h) .n (cY E) ?_
    refine bv 1 [3] ⟨?_,⟨?_,trivial⟩⟩
    ·
     refine aC E .n (aA E U22) ?_
     refine bv 3 [6] ⟨?_,⟨?_,trivial⟩⟩
     ·
      refine aC E .n (aT 0 E E U22 aE E (v:=(b.getD 0 [])) (gd [] (by omega))) ?_
      refine bv 4 [6] ⟨?_,⟨?_,trivial⟩⟩
      ·
       refine aC E .n (aO E aE) ?_
       refine bv 5 [6] ⟨?_,⟨?_,trivial⟩⟩
       ·
        refine aC E .n (aA E U23)<|az 6<|aC E .n (a7 E)<|az 7<|aC E .n (a7 E)<|az 8<|aC E .n (a7 E)<|bc (by kernel_rfl) ?_
        exact bY (af E E E E (af E E E E (af E E E E (af E E E E (Z E (Z E ai))))))<|au _
       ·
        refine aC E .n (a7 E)<|az 5<|aC E .n (aA E U23)<|az 7<|aC E .n (a7 E)<|az 8<|aC E .n (a7 E)<|bc (by kernel_rfl) ?_
        exact bY (af E E E E (af E E E E (af E E E E (af E E E E (Z E (Z E ai))))))<|au _
      ·
       refine aC E .n (a7 E)<|az 4<|aC E .n (aO E aE)<|az 5<|aC E .n (aA E U23)<|az 7<|aC E .n (a7 E)<|az 8<|aC E .n (a7 E)<|bc (by kernel_rfl) ?_
       exact bY (af E E E E (af E E E E (af E E E E (af E E E E (Z E (Z E ai))))))<|au _
     ·
      refine aC E .n (a7 E)<|az 3<|aC E .n (aT 0 E E U22 aE E (v:=(b.getD 0 [])) (gd [] (by omega)))<|az 4<|aC E .n (aO E aE)<|az 5<|aC E .n (aA E U23)<|az 7<|aC E .n (a7 E)<|az 8<|aC E .n (a7 E)<|bc (by kernel_rfl) ?_
      exact bY (af E E E E (af E E E E (af E E E E (af E E E E (Z E (Z E ai))))))<|au _
    ·
     refine aC E .n (aT 0 E E U22 aE E (v:=(b.getD 0 [])) (gd [] (by omega))) ?_
     refine bv 1 [4] ⟨?_,⟨?_,trivial⟩⟩
     ·
      refine aC E .n (aA E U22) ?_
      refine bv 4 [6] ⟨?_,⟨?_,trivial⟩⟩
      ·
       refine aC E .n (aO E aE) ?_
       refine bv 5 [6] ⟨?_,⟨?_,trivial⟩⟩
       ·
        refine aC E .n (aA E U23)<|az 6<|aC E .n (a7 E)<|az 7<|aC E .n (a7 E)<|az 8<|aC E .n (a7 E)<|bc (by kernel_rfl) ?_
        exact bY (af E E E E (af E E E E (af E E E E (af E E E E (Z E (Z E ai))))))<|au _
       ·
        refine aC E .n (a7 E)<|az 5<|aC E .n (aA E U23)<|az 7<|aC E .n (a7 E)<|az 8<|aC E .n (a7 E)<|bc (by kernel_rfl) ?_
        exact bY (af E E E E (af E E E E (af E E E E (af E E E E (Z E (Z E ai))))))<|au _
      ·
       refine aC E .n (a7 E)<|az 4<|aC E .n (aO E aE)<|az 5<|aC E .n (aA E U23)<|az 7<|aC E .n (a7 E)<|az 8<|aC E .n (a7 E)<|bc (by kernel_rfl) ?_
       exact bY (af E E E E (af E E E E (af E E E E (af E E E E (Z E (Z E ai))))))<|au _
     ·
      refine aC E .n (aO E aE) ?_
      refine bv 1 [5] ⟨?_,⟨?_,trivial⟩⟩
      ·
       refine aC E .n (aA E U22) ?_
       refine bv 5 [6] ⟨?_,⟨?_,trivial⟩⟩
       ·
        refine aC E .n (aA E U23)<|az 6<|aC E .n (a7 E)<|az 7<|aC E .n (a7 E)<|az 8<|aC E .n (a7 E)<|bc (by kernel_rfl) ?_
        exact bY (af E E E E (af E E E E (af E E E E (af E E E E (Z E (Z E ai))))))<|au _
       ·
        refine aC E .n (a7 E)<|az 5<|aC E .n (aA E U23)<|az 7<|aC E .n (a7 E)<|az 8<|aC E .n (a7 E)<|bc (by kernel_rfl) ?_
        exact bY (af E E E E (af E E E E (af E E E E (af E E E E (Z E (Z E ai))))))<|au _
      ·
       refine aC E .n (aA E U23)<|az 1<|aC E .n (aA E U22)<|az 6<|aC E .n (a7 E)<|az 7<|aC E .n (a7 E)<|az 8<|aC E .n (a7 E)<|bc (by kernel_rfl) ?_
       exact bY (af E E E E (af E E E E (af E E E E (af E E E E (Z E (Z E ai))))))<|au _
   refine bS<|am ?_
   have hx:=sh_yes (b:=b) (fun j hj=>hl j (by omega))
   refine tl 2 E (y:=(shN b)) (by rw [hx.1])<|tl 3 E (y:=(shM b)) (by rw [hx.2.1])<|tl 4 E (y:=(shE b)) (by rw [hx.2.2]) ?_
   exact Qd E (ar E (ar E (ar E ak))) ⟨E,E⟩
abbrev es:=@c_ref04_Shape
theorem c_ref04_Dot (n:Nat) (u v:List Int) (hu:SzL n u) (hv:SzL n v) (hn:n+n+u.length≤549755813000):Fn Tryz.prog 115 [kVZ.is u,kVZ.is v] (VP.tup [kC.is (if u.length=v.length then dotV u v else 0),kN6.is (if u.length=v.length then 0 else 8)]):=by
 refine aK Tryz.func115 E E fun m w=>aR (i:=0) E bu fun hB=>aR (i:=1) E bu fun hC=>Cr<|a8 .n aZ fun b1=>Wa E<|Wn<|aa<|Cr<|Wm E<|Ws (aA E U23)<|Wm E<|Ws (aA E U23)<|Ws (bt E E)<|Wn ?_
 refine aB E (fun h_t12=>?_)<|fun h_t12=>?_
 ·
  refine Cr<|Ws (cH dR E bH (.nil _))<|aG .n (aD (l:=kC) (u:=0) 0 E E E ab E Lr)<|Wa E<|Wn<|am<|aQ ?_
  have hne:u.length≠v.length:=by omega
  refine tb 0 E (y:=(if u.length=v.length then dotV u v else 0)) (by rw [if_neg hne])<|tl 5 E (y:=(if u.length=v.length then 0 else 8)) (by rw [if_neg hne]) ?_
  exact Qd E (a5 E (ac 0 E) ab (ar E ak)) ⟨E,E⟩
 ·
  refine Ck<|aa ?_
  have hne:u.length=v.length:=by omega
  refine ah<|Ws (aF dj (aq E (cD (by omega)) ax) (dh 0))<|Ax (l:=kC) (u:=0) aZ E ab (fun _=>E) Lr fun b2=>Wn<|aa<|Cr<|Wa E<|Wn<|aw<|bN (fun (i:Nat)=>i≤u.length) (fun (i:Nat)=>[(0,kVZ.is u),(1,kVZ.is v),(4,VP.pt b1 0),(6,VP.pt b2 0),(7,kN6.is (i:Int))]) (fun (i:Nat)=>[OB.box b2 29 kC (dotN u v i),OB.box b1 29 kC 0]) (fun (i:Nat)=>u.length-i) 0 (by omega) (af E E E E (ao E (ag (y:=(0:Int)) (by rfl)) ai)) (aW (OS.keepLe (cf (by rfl)) (OS.keep OS.nil))) ?_
  intro i hi
  refine aa<|Cr<|Wm E<|Wm E<|Ws (aA E U23)<|Ws (aS E E)<|Wn ?_
  refine aB E (fun h_t18=>?_)<|fun h_t18=>?_
  ·
   refine Ck<|aa<|aw ?_
   refine ba (Γ:=[.fr (kC.is (dotN u v i)),.fr (kVZ.is u),.fr (kN6.is (i:Int)),.fr (VP.pim kZ (u.getD i 0)),.fr (kZ.is (u.getD i 0)),.fr (kVZ.is v),.fr (kN6.is (i:Int)),.fr (VP.pim kZ (v.getD i 0)),.fr (kZ.is (v.getD i 0)),.fr (kC.is ((u.getD i 0)*(v.getD i 0))),.fr (kC.is ((dotN u v i)+((u.getD i 0)*(v.getD i 0))))]) (J E (fun N=>ae E (mN N 0 E) Li ab E) (om E E (om E E (J E (fun N=>aT i E E U23 ab E (v:=(u.getD i 0)) (gd 0 (by omega))) (J E (fun N=>aO E ab) (om E E (om E E (J E (fun N=>aT i E E U23 ab E (v:=(v.getD i 0)) (gd 0 (by omega))) (J E (fun N=>aO E ab) (J E (fun N=>f2 dm E E (dl (u.getD i 0) (v.getD i 0))) (J E (fun N=>aF fn127 (aq E (aJ ((dotN_Sz hu hv i).sm (by omega))) (aq E (aJ (((hu i).mul (hv i)).sm (by omega))) ax)) (eu (dotN u v i) ((u.getD i 0)*(v.getD i 0)))) oz)))))))))))<|fun σ1=>?_
   refine aG .n (aD (l:=kC) (u:=(dotN u v i)+((u.getD i 0)*(v.getD i 0))) 0 E E E ab E Lr)<|aj<|Qb<|ah<|Wm E<|Ws (aI E E (c:=((i:Int)+1)) (ay (by omega)))<|Wa E<|aj<|tb 0 E (y:=(dotN u v (i+1))) E ?_
   exact bG (i+1) (by omega) (by omega) (af E E E E (ao E (ag (y:=(((i+1):Nat):Int)) (by rfl)) ai))<|au _
  ·
   refine Ex<|Cr<|Ws (ae E (ac 0 E) Li ab E)<|aG .n (aD (l:=kC) (u:=(dotN u v i)) 1 E E E ab E Lr)<|Wa E<|Wn<|am<|tb 1 E (y:=(if u.length=v.length then dotV u v else 0)) (by rw [if_pos hne,show i=u.length by omega];rfl)<|tl 5 E (y:=(if u.length=v.length then 0 else 8)) (by rw [if_pos hne]) ?_
   exact Qd E (a5 E (ac 1 E) ab (ar E ak)) ⟨E,E⟩
theorem c_mat_Bits (b:List (List Int)):Fn Tryz.prog 212 [kMZ.is b] (kN6.is (mbits b)):=by
 refine aK Tryz.func212 E E fun m w=>aR (i:=0) E bu fun hB=>Cr<|Wa E<|Wr<|Wa E<|Wn<|aa<|Cr<|Wm E<|Ws (aA E U22)<|Wm E<|Wn<|aw<|bN (fun (i:Nat)=>i≤b.length) (fun (i:Nat)=>[(0,kMZ.is b),(3,kN6.is ((b.take i).foldl vbN 0)),(8,kMZ.is b),(9,kN6.is (b.length:Int)),(10,kN6.is (i:Int))]) (fun (i:Nat)=>[]) (fun (i:Nat)=>b.length-i) 0 (by omega) (Z E (ao E (ag (y:=((b.take 0).foldl vbN 0)) (by rfl)) (Z E (Z E (ao E (ag (y:=(0:Int)) (by rfl)) ai))))) (au _) ?_
 intro i hi
 refine Cr<|Ws (aS E E)<|Wn<|aa ?_
 refine aB E (fun h_t11=>?_)<|fun h_t11=>?_
 ·
  refine Ck<|aa<|aw<|Cr<|Ws (aT i E E U22 aE E (v:=(b.getD i [])) (gd [] (by omega)))<|Ws (aO E aE)<|Wa E<|Wr<|aR (i:=5) E bu fun hlk=>Wm E<|Ws (aA E U23)<|Wm E<|Wn<|aw<|bN (fun (k:Nat)=>k≤(b.getD i []).length) (fun (k:Nat)=>[(0,kMZ.is b),(3,kN6.is (vbN ((b.take i).foldl vbN 0) ((b.getD i []).take k))),(8,kMZ.is b),(9,kN6.is (b.length:Int)),(10,kN6.is (i:Int)),(14,kVZ.is (b.getD i [])),(15,kN6.is ((b.getD i []).length:Int)),(16,kN6.is (k:Int))]) (fun (k:Nat)=>[]) (fun (k:Nat)=>(b.getD i []).length-k) 0 (by omega) (Z E (ao E (ag (y:=(vbN ((b.take i).foldl vbN 0) ((b.getD i []).take 0))) (by rfl)) (af E E E E (Z E (ao E (ag (y:=(0:Int)) (by rfl)) ai))))) (au _) ?_
  intro k hk
  refine Cr<|Ws (aS E E)<|Wn<|aa ?_
  refine aB E (fun h_t17=>?_)<|fun h_t17=>?_
  ·
   refine Ck<|aa<|aw<|Cr<|Ws (aT k E E U23 ab E (v:=((b.getD i []).getD k 0)) (gd 0 (by omega)))<|Ws (aO E ab)<|Ax (l:=kZ) (u:=((b.getD i []).getD k 0)) aZ E ab (fun _=>E) Lr fun b1=>Wn<|ah<|Wm E<|Ws (ae E (ac 0 E) Li ab E)<|Ws (f1 fn188 E (c_zint_Bits ((b.getD i []).getD k 0)))<|Ws (O.mx E E)<|Wa E<|aj<|Qb<|ah<|Ws (aI E E (c:=((k:Int)+1)) (ay (by omega)))<|Wm E ?_
   refine aj<|tl 3 E (y:=(vbN ((b.take i).foldl vbN 0) ((b.getD i []).take (k+1)))) (vbN_s (by omega)) ?_
   exact bG (k+1) (by omega) (by omega) (af E E E E (Z E (Z E (Z E (ao E (ag (y:=(((k+1):Nat):Int)) (by rfl)) ai)))))<|el<|List.nil_sublist _
  ·
   refine du<|cS<|cS<|dr<|Qb<|ah<|Ws (aI E E (c:=((i:Int)+1)) (ay (by omega)))<|Wm E<|aj<|tl 3 E (y:=((b.take (i+1)).foldl vbN 0)) (mb_done (by omega) (by omega)) ?_
   exact bG (i+1) (by omega) (by omega) (af E E E E (ao E (ag (y:=(((i+1):Nat):Int)) (by rfl)) ai))<|au _
 ·
  refine Ex<|Cr<|Wm E<|Wa E<|Wn<|am<|tl 2 E (y:=(mbits b)) (by rw [List.take_of_length_le (by omega)];rfl) ?_
  exact Qd E (ar E ak) ⟨E,E⟩
end Fw
namespace Fw
open Go
theorem gsE_frac {G:Nat→Nat→Int} (hs:SymG G) {k:Nat} (hp:PosU G k) {i j:Nat} (hi:k≤i) (hj:k≤j):gsE (qG G) k i j=(uE G k i j:Rat)/(uD G k:Rat):=by
  have h:=ugs hs k hp
  have h1:=h.e i j hi hj
  have h2:uD G k≠0:=by have:=hp.uD (Nat.le_refl k);omega
  have h3:=rat_ne h2
  rw [h1,h.d];rw [h.d] at h3;grind
theorem gsE_pos {G:Nat→Nat→Int} (hs:SymG G) {k:Nat} (hp:PosU G k):0<gsE (qG G) k k k↔0<uE G k k k:=by
  have h2:0<uD G k:=hp.uD (Nat.le_refl k)
  have h1:=gsE_frac hs hp (Nat.le_refl k) (Nat.le_refl k)
  have hd:(0:Rat)<(uD G k:Rat):=by exact_mod_cast h2
  have hne:=rat_ne (show uD G k≠0 by omega)
  have e:(uE G k k k:Rat)=gsE (qG G) k k k*(uD G k:Rat):=by rw [h1];grind
  constructor
  · intro h
    have:(0:Rat)<(uE G k k k:Rat):=by rw [e];exact Rat.mul_pos h hd
    exact_mod_cast this
  · intro h
    have h4:(0:Rat)<(uE G k k k:Rat):=by exact_mod_cast h
    rw [h1,Rat.div_def];exact Rat.mul_pos h4 (Rat.inv_pos.2 hd)
def szU (n:Nat):Nat→Nat
  | 0=>n
  | k+1=>2*szU n k+1
theorem uE_Sz {G:Nat→Nat→Int} (hs:SymG G) {n:Nat} (hn:∀i j,Sz n (G i j)) {K:Nat} (hp:PosU G K):∀k,k≤K→∀i j,k≤i→k≤j→Sz (szU n k) (uE G k i j)
  | 0,_,i,j,_,_=>hn i j
  | k+1,hk,i,j,hi,hj=>by
    have ih:=uE_Sz hs hn hp k (by omega)
    have hx:=(ugs hs K hp).x k (by omega) i j (by omega) (by omega) (by omega) (by omega)
    have hd:0<uD G k:=hp.uD (by omega)
    have h1:=Sz.add1 (((ih k k (Nat.le_refl _) (Nat.le_refl _)).mul (ih i j (by omega) (by omega)))) ((((ih i k (by omega) (Nat.le_refl _)).mul (ih j k (by omega) (Nat.le_refl _)))).neg)
    have e:uE G k k k*uE G k i j + -(uE G k i k*uE G k j k)=uE G (k+1) i j*uD G k:=by
      rw [hx];show _=uE G k k k*uE G k i j-_;omega
    rw [e] at h1
    have h2:=h1.le (y:=uE G (k+1) i j) (by
      rw [Int.natAbs_mul];exact Nat.le_mul_of_pos_right _ (by omega))
    exact h2.up (by simp only [szU];omega)
def combN (x:List Int) (b:List (List Int)) (k:Nat):Nat→Int
  | 0=>0
  | i+1=>combN x b k i+x.getD i 0*(b.getD i []).getD k 0
theorem combN_Sz {n m x b} (hx:SzL n x) (hb:∀i,SzL m (b.getD i [])) (k):∀i,Sz (n+m+i) (combN x b k i)
  | 0=>Sz.zero _
  | i+1=>Sz.add1 (combN_Sz hx hb k i) (((hx i).mul (hb i k)).up (show n+m≤n+m+i by omega))
def combP (x:List Int) (b:List (List Int)) (i k0:Nat):List Int:=(List.range (b.getD 0 []).length).map (fun k=>combN x b k (if k<k0 then i+1 else i))
def combV (x:List Int) (b:List (List Int)):List Int:=(List.range (b.getD 0 []).length).map (fun k=>combN x b k b.length)
theorem combP_len (x b i k0):(combP x b i k0).length=(b.getD 0 []).length:=by simp [combP]
theorem combP_get {x b i k0} (h:k0<(b.getD 0 []).length):(combP x b i k0).getD k0 0=combN x b k0 i:=by
  rw [gde _ 0 (by rw [combP_len];exact h)];simp [combP]
theorem combP_set {x b i k0} (h:k0<(b.getD 0 []).length):(combP x b i k0).set k0 (combN x b k0 i+x.getD i 0*(b.getD i []).getD k0 0)=combP x b i (k0+1):=by
  apply List.ext_getElem
  · simp [combP]
  · intro k h1 h2
    simp only [List.getElem_set,combP,List.getElem_map,List.getElem_range]
    by_cases e:k0=k
    · subst e;rw [if_pos rfl,if_pos (by omega)];rfl
    · rw [if_neg e]
      by_cases e2:k<k0
      · rw [if_pos e2,if_pos (by omega)]
      · rw [if_neg e2,if_neg (by omega)]
theorem combP_row {x b i k0} (h:(b.getD 0 []).length≤k0):combP x b i k0=combP x b (i+1) 0:=by
  apply List.map_congr_left
  intro k hk
  have:=List.mem_range.1 hk
  rw [if_pos (by omega),if_neg (by omega)]
theorem combP_zero (x b):combP x b 0 0=List.replicate (b.getD 0 []).length 0:=by
  apply List.ext_getElem
  · simp [combP]
  · intro k h1 h2;simp [combP,combN]
theorem combP_end (x) (b:List (List Int)):combP x b b.length 0=combV x b:=by
  apply List.map_congr_left
  intro k hk;rw [if_neg (by omega)]
theorem slsl_len {α:Type} {k:Kd α} {b:List (List α)} (m:Mem) (v:Value) (h:((kSl (kSl k)).is b).p m v):∀i,(b.getD i []).length≤1099511627776:=by
  intro i
  obtain ⟨a,cap,rfl,h1,h2,h3⟩:=Kd.is_sl h
  by_cases hi:i<b.length
  · rcases h3 with rfl | ⟨g,o,c,cells,rfl,e1,e2,e3⟩
    · simp at hi
    · have:=e3.get i hi
      obtain ⟨a',cap',_,h4,_⟩:=this
      rw [gde _ [] hi];exact h4
  · have e:b.getD i []=[]:=by simp [List.getD,Nat.le_of_not_lt hi]
    rw [e];simp
abbrev dK:=@slsl_len
def RectL (b:List (List Int)):Prop:=∀i,i<b.length→(b.getD i []).length=(b.getD 0 []).length
def SzM (n:Nat) (b:List (List Int)):Prop:=∀i,SzL n (b.getD i [])
theorem combV_len (x b):(combV x b).length=(b.getD 0 []).length:=by simp [combV]
theorem combV_get {x b k} (h:k<(b.getD 0 []).length):(combV x b).getD k 0=combN x b k b.length:=by
  rw [gde _ 0 (by rw [combV_len];exact h)];simp [combV]
theorem combV_app {x b k} (h:k<(b.getD 0 []).length):(combV x b).take k++[combN x b k b.length]=(combV x b).take (k+1):=by
  rw [←combV_get h,gde _ 0 (by rw [combV_len];exact h),List.take_succ_eq_append_getElem (by rw [combV_len];exact h)]
theorem combP_at {x b i k} (h:k<(b.getD 0 []).length):(combP x b i k)[k]?=some (combN x b k i):=by
  rw [gd (l:=combP x b i k) (i:=k) 0 (by rw [combP_len];exact h),combP_get h]
theorem combV_nil (x) {b:List (List Int)} (h:b.length=0):combV x b=[]:=by
  have:=List.eq_nil_of_length_eq_zero h;subst this;rfl
def combOk (x:List Int) (b:List (List Int)):Prop:=rect b=true∧x.length=b.length
instance (x b):Decidable (combOk x b):=by unfold combOk;infer_instance
def combA (x:List Int) (b:List (List Int)):List Int:=if combOk x b then combV x b else []
def combE (x:List Int) (b:List (List Int)):Int:=if combOk x b then 0 else 8
theorem comb_yes {x b} (h:combOk x b):combV x b=combA x b∧combE x b=0:=⟨(if_pos h).symm,if_pos h⟩
theorem comb_no {x b} (h:¬combOk x b):combA x b=[]∧combE x b=8:=⟨if_neg h,if_neg h⟩
theorem rectL {b} (h:rect b=true):RectL b:=rect_iff.1 h
theorem rect_of_shE {b} (h:¬shE b≠0):rect b=true:=by
  unfold shE at h
  by_cases e:rect b=true
  · exact e
  · rw [if_neg e] at h;exact absurd (by decide) h
theorem not_rect_of_shE {b} (h:shE b≠0):¬rect b=true:=by
  intro e;unfold shE at h;rw [if_pos e] at h;exact h rfl
def gOk (G:Nat→Nat→Int) (n:Nat):Bool:=(List.range n).all (fun i=>decide (0<uE G i i i))
def gDs (G:Nat→Nat→Int) (n:Nat):List Int:=(List.range (n+1)).map (uD G)
def gRow (G:Nat→Nat→Int) (i m:Nat):List Int:=(List.range m).map (fun j=>uE G j i j)
def gLs (G:Nat→Nat→Int) (n:Nat):List (List Int):=(List.range n).map (fun i=>gRow G i i)
theorem gOk_iff {G n}:gOk G n=true↔PosU G n:=by
  unfold gOk PosU;simp
theorem gRow_len (G i m):(gRow G i m).length=m:=by simp [gRow]
theorem gRow_get {G i m j} (h:j<m):(gRow G i m).getD j 0=uE G j i j:=by
  rw [gde _ 0 (by rw [gRow_len];exact h)];simp [gRow]
theorem gRow_app (G i m):gRow G i m++[uE G m i m]=gRow G i (m+1):=by
  simp [gRow,List.range_succ]
theorem gRow_take (G i m):(gRow G i (m+1)).take m=gRow G i m:=by
  rw [←gRow_app,List.take_left' (gRow_len G i m)]
theorem gDs_len (G n):(gDs G n).length=n+1:=by simp [gDs]
theorem gDs_get {G n k} (h:k≤n):(gDs G n).getD k 0=uD G k:=by
  rw [gde _ 0 (by rw [gDs_len];omega)];simp [gDs]
theorem gDs_app (G n):gDs G n++[uE G n n n]=gDs G (n+1):=by
  simp [gDs,List.range_succ];rfl
theorem gLs_len (G n):(gLs G n).length=n:=by simp [gLs]
theorem gLs_get {G n k} (h:k<n):(gLs G n).getD k []=gRow G k k:=by
  rw [gde _ [] (by rw [gLs_len];omega)];simp [gLs]
theorem gLs_app (G n):gLs G n++[gRow G n n]=gLs G (n+1):=by
  simp [gLs,List.range_succ]
theorem szU_eq (n):∀k,szU n k+1=2^k*(n+1)
  | 0=>by simp [szU]
  | k+1=>by rw [szU,Nat.pow_succ,Nat.mul_comm (2^k) 2,Nat.mul_assoc,←szU_eq n k];omega
theorem szU_le (n) {k:Nat} (h:k≤12):szU n k≤4096*(n+1):=by
  have h1:=szU_eq n k
  have h2:2^k≤2^12:=Nat.pow_le_pow_right (by decide) h
  have h3:=Nat.mul_le_mul_right (n+1) h2
  omega
theorem gDs_at {G n k} (h:k≤n):(gDs G n)[k]?=some (uD G k):=by
  have:=gDs_get (G:=G) h;rw [gd (l:=gDs G n) (i:=k) 0 (by rw [gDs_len];omega),this]
abbrev dd:=@gDs_at
theorem gRow_at {G i m j} (h:j<m):(gRow G i m)[j]?=some (uE G j i j):=by
  have:=gRow_get (G:=G) (i:=i) h;rw [gd (l:=gRow G i m) (i:=j) 0 (by rw [gRow_len];omega),this]
abbrev eH:=@gRow_at
theorem gLs_at {G n i k} (hi:i<n) (h:k<i):((gLs G n).getD i [])[k]?=some (uE G k i k):=by
  rw [gLs_get hi];exact gRow_at h
def gsoV (G:Nat→Nat→Int) (n:Nat):List Int×List (List Int):=if gOk G n=true then (gDs G n,gLs G n) else ([],[])
theorem gso_yes {G n} (h:PosU G n):gOk G n=true∧gsoV G n=(gDs G n,gLs G n):=⟨gOk_iff.2 h,if_pos (gOk_iff.2 h)⟩
theorem gso_no {G n i} (hi:i<n) (h:(uE G i i i).sign≤0):gOk G n=false∧gsoV G n=([],[]):=by
  have e:¬gOk G n=true:=fun e=>by
    have h1:=gOk_iff.1 e i hi
    have:=Int.sign_eq_one_of_pos h1
    omega
  exact ⟨by simpa using e,if_neg e⟩
theorem posU_succ {G i} (h:PosU G i) (hs:¬(uE G i i i).sign≤0):PosU G (i+1):=by
  intro l hl
  by_cases e:l=i
  · subst e
    rcases Int.lt_trichotomy (uE G l l l) 0 with h1 | h1 | h1
    · rw [Int.sign_eq_neg_one_of_neg h1] at hs;omega
    · rw [h1] at hs;simp at hs
    · exact h1
  · exact h l (by omega)
theorem uD_Sz {G:Nat→Nat→Int} (hs:SymG G) {n:Nat} (hn:∀i j,Sz n (G i j)) {K:Nat} (hp:PosU G K):∀k,k≤K→Sz (szU n k+1) (uD G k)
  | 0,_=>by
    show (1:Int).natAbs<2^(n+1)
    have:=Nat.one_le_two_pow (n:=n)
    rw [Nat.pow_succ];simp;omega
  | k+1,hk=>(uE_Sz hs hn hp k (by omega) k k (Nat.le_refl _) (Nat.le_refl _)).up (by simp only [szU];omega)
end Fw
namespace Fw
open Go Go.Proofs
theorem c_mat_combine (n:Nat) (x:List Int) (b:List (List Int)) (hx:SzL n x) (hb:SzM n b) (hr:RectL b) (hl:b.length≤x.length) (hn:n+n+b.length≤549755813000):Fn Tryz.prog 118 [kVZ.is x,kMZ.is b] (kVC.is (combV x b)):=by
 refine aK Tryz.func118 E E fun m w=>aR (i:=0) E bu fun hA=>aR (i:=1) E bu fun hB=>Cr<|Wa E<|Wn<|aa<|Cr<|Wm E<|Ws (aA E U22)<|Ws (bR E E)<|Wn ?_
 refine aB E (fun h_t12=>?_)<|fun h_t12=>?_
 ·
  refine aa<|cC (q:=kVC.is (combV x b)) 4 E (fe (cL _) (ag (combV_nil x (by omega)).symm))<|ah<|Wa E<|Wn<|am<|aQ<|cC (q:=kVC.is (combV x b)) 4 E (fe (cL _) (ag (combV_nil x (by omega)).symm)) ?_
  exact Qd E (ar E ak) ⟨E,E⟩
 ·
  refine Ck<|Cr<|Wm E<|Ws (aT 0 E E U22 aE E (v:=(b.getD 0 [])) (gd [] (by (first | omega | (simp only [combP_len];have:=hr i (by omega);omega)))))<|Ws (aO E aE)<|aR (i:=15) E bu fun hlr=>Ws (aA E U23)<|bp ((b.getD 0 []).length) .n E E E (by (first | omega | (simp only [combP_len];have:=hr i (by omega);omega))) U23 bo aZ fun v1=>Wa E<|Wn<|aa<|Cr<|Wm E<|Ws (aA E U22)<|Wm E<|Wn<|aw<|tr 0 E (y:=(combP x b 0 0)) (combP_zero x b).symm<|bN (fun (i:Nat)=>i≤b.length) (fun (i:Nat)=>[(0,kVZ.is x),(1,kMZ.is b),(5,VP.ex v1),(18,kMZ.is b),(19,kN6.is (b.length:Int)),(20,kN6.is (i:Int))]) (fun (i:Nat)=>[OB.row v1 29 kC (combP x b i 0)]) (fun (i:Nat)=>b.length-i) 0 (by omega) (af E E E E (Z E (ao E (ag (y:=(0:Int)) (by rfl)) ai))) (au _) ?_
  intro i hi
  refine Cr<|Ws (aS E E)<|Wn<|aa ?_
  refine aB E (fun h_t21=>?_)<|fun h_t21=>?_
  ·
   refine Ck<|aa<|aw<|Cr<|Wm E<|Ws (aT i E E U22 aE E (v:=(b.getD i [])) (gd [] (by (first | omega | (simp only [combP_len];have:=hr i (by omega);omega)))))<|Ws (aO E aE)<|Wa E<|Wa E<|Wr<|aR (i:=7) E bu fun hlk=>Wm E<|Ws (aA E U23)<|Wm E<|Wn<|aw<|bN (fun (k:Nat)=>k≤(b.getD i []).length) (fun (k:Nat)=>[(0,kVZ.is x),(1,kMZ.is b),(5,VP.ex v1),(6,kN6.is (i:Int)),(7,kVZ.is (b.getD i [])),(18,kMZ.is b),(19,kN6.is (b.length:Int)),(20,kN6.is (i:Int)),(25,kVZ.is (b.getD i [])),(26,kN6.is ((b.getD i []).length:Int)),(27,kN6.is (k:Int))]) (fun (k:Nat)=>[OB.row v1 29 kC (combP x b i k)]) (fun (k:Nat)=>(b.getD i []).length-k) 0 (by omega) (af E E E E (af E E E E (Z E (Z E (ao E (ag (y:=(0:Int)) (by rfl)) ai))))) (au _) ?_
   intro k hk
   refine Cr<|Ws (aS E E)<|Wn<|aa ?_
   refine aB E (fun h_t28=>?_)<|fun h_t28=>?_
   ·
    refine Ck<|aa<|aw<|Cr<|Wm E<|Ws (aT k E E U23 ab E (v:=((b.getD i []).getD k 0)) (gd 0 (by (first | omega | (simp only [combP_len];have:=hr i (by omega);omega)))))<|Ws (aO E ab)<|a8 .n aZ fun b2=>Wa E<|aG .n (aD (l:=kZ) (u:=((b.getD i []).getD k 0)) 0 E E E ab E Lr)<|Wn ?_
    refine ba (Γ:=[.fr (VP.ex v1),.fr (kN6.is (k:Int)),.fr (VP.ex v1),.fr (kN6.is (k:Int)),.fr (VP.pel v1 (k*2)),.fr (kC.is (combN x b k i)),.fr (kVZ.is x),.fr (kN6.is (i:Int)),.fr (VP.pim kZ (x.getD i 0)),.fr (kZ.is (x.getD i 0)),.fr (kZ.is ((b.getD i []).getD k 0)),.fr (kC.is ((x.getD i 0)*((b.getD i []).getD k 0))),.fr (kC.is ((combN x b k i)+((x.getD i 0)*((b.getD i []).getD k 0)))),.fr (VP.pel v1 (k*2))]) (om E E (om E E (om E E (om E E (J E (fun N=>aY (k:=kC) (xs:=(combP x b i k)) (n:=(k:Int)) k E E (mN N 1 E) U23 ab E (by (first | omega | (simp only [combP_len];have:=hr i (by omega);omega)))) (J E (fun N=>bd (k:=kC) (xs:=(combP x b i k)) k E (mN N 1 E) Li (ho:=E) (y:=(combN x b k i)) (combP_at (by have:=hr i (by omega);omega)) ab E) (om E E (om E E (J E (fun N=>aT i E E U23 ab E (v:=(x.getD i 0)) (gd 0 (by (first | omega | (simp only [combP_len];have:=hr i (by omega);omega))))) (J E (fun N=>aO E ab) (J E (fun N=>ae E (mN N 0 E) Li ab E) (J E (fun N=>f2 de E E (c8 (x.getD i 0) ((b.getD i []).getD k 0))) (J E (fun N=>aF dU (aq E (aJ ((combN_Sz hx hb k i).sm (by omega))) (aq E (aJ (((hx i).mul (hb i k)).sm (by omega))) ax)) (dP (combN x b k i) ((x.getD i 0)*((b.getD i []).getD k 0)))) (J E (fun N=>aY (k:=kC) (xs:=(combP x b i k)) (n:=(k:Int)) k E E (mN N 1 E) U23 ab E (by (first | omega | (simp only [combP_len];have:=hr i (by omega);omega)))) oz))))))))))))))<|fun σ1=>?_
    refine aG .n (cd 1 k E E Li E (y0:=((combP x b i k).getD k 0)) (gd 0 (by (first | omega | (simp only [combP_len];have:=hr i (by omega);omega)))) ab E Lr)<|aj<|Qb<|ah<|Ws (aI E E (c:=((k:Int)+1)) (ay (by omega)))<|Wm E<|aj<|tr 1 E (y:=(combP x b i (k+1))) (combP_set (by have:=hr i (by omega);omega)) ?_
    exact bG (k+1) (by omega) (by omega) (af E E E E (af E E E E (Z E (Z E (ao E (ag (y:=(((k+1):Nat):Int)) (by rfl)) ai)))))<|aW<|OS.skip<|OS.keep OS.nil
   ·
    refine du<|cS<|cS<|dr<|Qb<|ah<|Ws (aI E E (c:=((i:Int)+1)) (ay (by omega)))<|Wm E<|aj<|tr 0 E (y:=(combP x b (i+1) 0)) (combP_row (by have:=hr i (by omega);omega)) ?_
    exact bG (i+1) (by omega) (by omega) (af E E E E (Z E (ao E (ag (y:=(((i+1):Nat):Int)) (by rfl)) ai)))<|au _
  ·
   refine Ex<|Cr<|Wm E<|Wa E<|Wn<|am<|bJ 0 E (kp 0 E (kp 1 E (.hit (i:=4) E (.hit (i:=5) E (kp 18 E (kp 19 E (kp 20 E (kp 21 E (.hit (i:=48) E .nil)))))))))<|tl 4 E (y:=(combV x b)) (by rw [show i=b.length by omega,combP_end]) ?_
   exact Qd E (ar E ak) ⟨E,E⟩
theorem c_ref04_Combine (n:Nat) (x:List Int) (b:List (List Int)) (hx:SzL n x) (hb:SzM n b) (hn:n+n+b.length≤549755813000):Fn Tryz.prog 62 [kVZ.is x,kMZ.is b] (VP.tup [kVC.is (combA x b),kN6.is (combE x b)]):=by
 refine aK Tryz.func62 E E fun m w=>aR (i:=0) E bu fun hA=>aR (i:=1) E bu fun hB=>Cr<|Wa E<|Wa E<|Wr<|Wm E<|Ws (f1 fn126 E (es b))<|Wm E<|Ws (aH E E)<|Ws (aH E E)<|Ws (aH E E)<|Wa E<|Wa E<|Wa E<|Wn<|aa<|aa ?_
 refine ah<|Wm E<|Ws (bt E E)<|Wm E ?_
 refine bV 21 E (fun h_t21=>?_)<|fun h_t21=>?_
 ·
  refine Kt E E<|Kt E E<|Kt E E<|Kt E E<|Kt E E<|Ws (ch E E)<|Wn<|em E<|Cr<|Wa E<|Wa E<|Wn<|am<|aQ ?_
  have hno:¬combOk x b:=fun h=>not_rect_of_shE h_t21 h.1
  refine cC (q:=kVC.is (combA x b)) 4 E (fe (cL _) (ag (comb_no hno).1.symm))<|tl 5 E (y:=(combE x b)) (comb_no hno).2.symm ?_
  exact Qd E (ar E (ar E ak)) ⟨E,E⟩
 ·
  refine Wg E E (bj E)<|Wg E E (aA E U23)<|Wg E E (bj E)<|Wg E E (aA E U22)<|Wg E E (bt E E)<|Ws (cb E E)<|Wn ?_
  refine aB E (fun h_t27=>?_)<|fun h_t27=>?_
  ·
   refine Cr<|Wa E<|Wa E<|Wn<|am<|aQ ?_
   have hno:¬combOk x b:=fun h=>h_t27 (by rw [h.2])
   refine cC (q:=kVC.is (combA x b)) 4 E (fe (cL _) (ag (comb_no hno).1.symm))<|tl 5 E (y:=(combE x b)) (comb_no hno).2.symm ?_
   exact Qd E (ar E (ar E ak)) ⟨E,E⟩
  ·
   refine Ck<|aa ?_
   have hok:combOk x b:=⟨rect_of_shE h_t21,by have h:=h_t27;omega⟩
   have hr:=rectL hok.1
   refine aR (i:=1) E dK fun hlc=>?_
   have hlc0:=hlc 0
   refine tl 7 E (y:=((b.getD 0 []).length:Int)) (by unfold shM;rw [if_pos hok.1])<|ah<|Wa E<|Wn<|aa<|Cr<|Wa E<|Wn<|aw<|ca 29 kC<|bX (fun (k:Nat) (v:Value)=>k≤(b.getD 0 []).length) (fun (k:Nat) (v:Value)=>[(0,kVZ.is x),(1,kMZ.is b),(7,kN6.is ((b.getD 0 []).length:Int)),(9,VP.ex v),(10,kN6.is (k:Int))]) (fun (k:Nat) (v:Value)=>[OB.row v 29 kC ((combV x b).take k)]) (fun (k:Nat) (v:Value)=>(b.getD 0 []).length-k) 0 (.slice none 0 0) (by omega) (af E E E E (ao E (ag (y:=(0:Int)) (by rfl)) ai)) (aW (OS.keepLe (a9 (by rfl)) OS.nil)) ?_
   intro k v hk
   refine aa<|aa ?_
   have hcl:(combV x b).length=(b.getD 0 []).length:=combV_len x b
   have hct:((combV x b).take k).length=k:=by rw [List.length_take];omega
   refine ah<|Wm E<|Wm E<|Ws (aS E E)<|Wn ?_
   refine aB E (fun h_t30=>?_)<|fun h_t30=>?_
   ·
    refine Ck<|aa<|aw<|Cr<|Ws (aF dj (aq E (cD (by omega)) ax) (dh 0))<|Ax (l:=kC) (u:=0) aZ E ab (fun _=>E) Lr fun b1=>Wn<|aa<|Cr<|Wa E<|Wn<|aw<|bN (fun (i:Nat)=>i≤b.length) (fun (i:Nat)=>[(0,kVZ.is x),(1,kMZ.is b),(7,kN6.is ((b.getD 0 []).length:Int)),(9,VP.ex v),(10,kN6.is (k:Int)),(11,VP.pt b1 0),(12,kN6.is (i:Int))]) (fun (i:Nat)=>[OB.box b1 29 kC (combN x b k i),OB.row v 29 kC ((combV x b).take k)]) (fun (i:Nat)=>b.length-i) 0 (by omega) (af E E E E (Z E (Z E (ao E (ag (y:=(0:Int)) (by rfl)) ai)))) (aW (OS.keepLe (cf (by rfl)) (OS.keep OS.nil))) ?_
    intro i hi
    refine aa<|Cr<|Wm E<|Wm E<|Ws (aA E U22)<|Ws (aS E E)<|Wn ?_
    refine aB E (fun h_t37=>?_)<|fun h_t37=>?_
    ·
     refine Ck<|aa<|aw ?_
     refine ba (Γ:=[.fr (kC.is (combN x b k i)),.fr (kVZ.is x),.fr (kN6.is (i:Int)),.fr (VP.pim kZ (x.getD i 0)),.fr (kZ.is (x.getD i 0)),.fr (kMZ.is b),.fr (kN6.is (i:Int)),.fr (VP.pim kVZ (b.getD i [])),.fr (kVZ.is (b.getD i [])),.fr (kN6.is (k:Int)),.fr (VP.pim kZ ((b.getD i []).getD k 0)),.fr (kZ.is ((b.getD i []).getD k 0)),.fr (kC.is ((x.getD i 0)*((b.getD i []).getD k 0))),.fr (kC.is ((combN x b k i)+((x.getD i 0)*((b.getD i []).getD k 0))))]) (J E (fun N=>ae E (mN N 0 E) Li ab E) (om E E (om E E (J E (fun N=>aT i E E U23 ab E (v:=(x.getD i 0)) (gd 0 (by (first | omega | (have:=hr i (by omega);omega))))) (J E (fun N=>aO E ab) (om E E (om E E (J E (fun N=>aT i E E U22 aE E (v:=(b.getD i [])) (gd [] (by (first | omega | (have:=hr i (by omega);omega))))) (J E (fun N=>aO E aE) (om E E (J E (fun N=>aT k E E U23 ab E (v:=((b.getD i []).getD k 0)) (gd 0 (by (first | omega | (have:=hr i (by omega);omega))))) (J E (fun N=>aO E ab) (J E (fun N=>f2 dm E E (dl (x.getD i 0) ((b.getD i []).getD k 0))) (J E (fun N=>aF fn127 (aq E (aJ ((combN_Sz hx hb k i).sm (by omega))) (aq E (aJ (((hx i).mul (hb i k)).sm (by omega))) ax)) (eu (combN x b k i) ((x.getD i 0)*((b.getD i []).getD k 0)))) oz))))))))))))))<|fun σ1=>?_
     refine aG .n (aD (l:=kC) (u:=(combN x b k i)+((x.getD i 0)*((b.getD i []).getD k 0))) 0 E E E ab E Lr)<|aj<|Qb<|ah<|Wm E<|Ws (aI E E (c:=((i:Int)+1)) (ay (by omega)))<|Wa E<|aj<|tb 0 E (y:=(combN x b k (i+1))) E ?_
     exact bG (i+1) (by omega) (by omega) (af E E E E (Z E (Z E (ao E (ag (y:=(((i+1):Nat):Int)) (by rfl)) ai))))<|au _
    ·
     refine Ex<|ah<|Wm E<|Ws (ae E (ac 0 E) Li ab E)<|Ws (bC U23 bo (b9 E bw) E (by decide))<|bL 1 .n E E E Lr U23 bo (by (simp only [List.length_cons,List.length_nil];omega)) fun v2=>Wa E<|aj<|Qb<|ah<|Wm E<|Ws (aI E E (c:=((k:Int)+1)) (ay (by omega)))<|Wa E<|aj<|tr 1 E (y:=((combV x b).take (k+1))) (by rw [show i=b.length by omega];exact combV_app (by omega)) ?_
     exact bP (k+1) v2 (by omega) (by omega) (af E E E E (ao E (ag (y:=(((k+1):Nat):Int)) (by rfl)) ai))<|aW<|OS.skip<|OS.keep OS.nil
   ·
    refine Ex<|Cr<|Wm E<|Wa E<|Wa E<|Wn<|am<|bJ 0 E (kp 0 E (kp 1 E (.hit (i:=4) E (kp 5 E (kp 7 E (.hit (i:=9) E (kp 10 E (kp 28 E (kp 29 E (kp 30 E (.hit (i:=58) E .nil)))))))))))<|tl 4 E (y:=(combA x b)) (by rw [List.take_of_length_le (by omega)];exact (comb_yes hok).1)<|tl 5 E (y:=(combE x b)) (comb_yes hok).2.symm ?_
    exact Qd E (ar E (ar E ak)) ⟨E,E⟩
end Fw
namespace Fw
open Go
def bigN (b:List (List Int)) (bits:Bool) (i:Nat):Bool:=(decide ((12:Int)<(b.length:Int))||(bits&&decide ((256:Int)<mbits b)))||(b.take i).any (fun r=>decide ((12:Int)<(r.length:Int)))
theorem bigN_T {b bits} (h:(12:Int)<(b.length:Int)):true=bigN b bits 0:=by simp [bigN];left;omega
theorem bigN_bT {b} (h:¬(12:Int)<(b.length:Int)):decide ((256:Int)<mbits b)=bigN b true 0:=by simp [bigN];omega
theorem bigN_succ {b bits i} (h:i<b.length):bigN b bits (i+1)=(bigN b bits i||decide ((12:Int)<((b.getD i []).length:Int))):=by
  unfold bigN
  rw [←take_app (d:=[]) h,List.any_append]
  simp [Bool.or_assoc]
theorem bigN_no {b bits} (h:¬bigN b bits b.length=true):b.length≤12∧(bits=true→mbits b≤256)∧∀i,(b.getD i []).length≤12:=by
  unfold bigN at h
  simp only [List.take_length,Bool.or_eq_true,Bool.and_eq_true,decide_eq_true_eq,List.any_eq_true,not_or,not_and,not_exists] at h
  obtain ⟨⟨h1,h2⟩,h3⟩:=h
  refine ⟨by omega,fun hb=>by have:=h2 hb;omega,fun i=>?_⟩
  by_cases hi:i<b.length
  · have:=h3 (b.getD i []) (by rw [gde _ [] hi];exact List.getElem_mem hi);omega
  · have e:b.getD i []=[]:=by simp [List.getD,Nat.le_of_not_lt hi]
    rw [e];simp
theorem vbN_le {c:Int} {v:List Int}:∀{n:Int},n≤c→(∀x∈v,(bitlen x.natAbs:Int)≤c)→vbN n v≤c:=by
  induction v with
  | nil=>intro n h _;exact h
  | cons x v ih=>
    intro n h hx
    refine ih (n:=vbF n x) ?_ (fun y hy=>hx y (List.mem_cons_of_mem _ hy))
    have:=hx x (by simp)
    unfold vbF
    omega
theorem mb_ge:∀(b:List (List Int)) (n:Int),n≤b.foldl vbN n
  | [],n=>Int.le_refl n
  | r::b,n=>Int.le_trans (vbN_ge n r) (mb_ge b (vbN n r))
theorem mb_mem:∀{b:List (List Int)} {n:Int} {r:List Int} {x:Int},r∈b→x∈r→(bitlen x.natAbs:Int)≤b.foldl vbN n
  | s::b,n,r,x,h,hx=>by
    rcases List.mem_cons.1 h with e | h
    · subst e;exact Int.le_trans (vbN_mem hx) (mb_ge b _)
    · exact mb_mem (b:=b) (n:=vbN n s) h hx
theorem mb_le {c:Int}:∀{b:List (List Int)} {n:Int},n≤c→(∀r∈b,∀x∈r,(bitlen x.natAbs:Int)≤c)→b.foldl vbN n≤c
  | [],n,h,_=>h
  | r::b,n,h,hx=>mb_le (b:=b) (vbN_le h (hx r (by simp))) (fun s hs=>hx s (List.mem_cons_of_mem _ hs))
theorem getD_mem {α:Type} {l:List α} {i:Nat} (d:α) (h:i<l.length):l.getD i d∈l:=by rw [gde l d h];exact List.getElem_mem h
abbrev eE:=@getD_mem
theorem mem_getD {α:Type} {l:List α} {x:α} (d:α) (h:x∈l):∃i,i<l.length∧l.getD i d=x:=by
  obtain ⟨i,hi,rfl⟩:=List.getElem_of_mem h
  exact ⟨i,hi,gde l d hi⟩
theorem mbits_Sz {b:List (List Int)} {c:Nat} (h:mbits b≤c):SzM c b:=by
  intro i k
  by_cases hi:i<b.length
  · by_cases hk:k<(b.getD i []).length
    · have h1:=mb_mem (n:=0) (getD_mem [] hi) (getD_mem 0 hk)
      have h2:=lt_bitlen ((b.getD i []).getD k 0).natAbs
      exact Nat.lt_of_lt_of_le h2 (Nat.pow_le_pow_right (by decide) (by have h3:mbits b=b.foldl vbN 0:=rfl;omega))
    · have e:(b.getD i []).getD k 0=0:=by rw [List.getD_eq_getElem?_getD,List.getElem?_eq_none (by omega)];rfl
      rw [e];exact Sz.zero _
  · have e:b.getD i []=[]:=by simp [List.getD,Nat.le_of_not_lt hi]
    rw [e];exact Sz.zero _
def rowsTo (b:List (List Int)) (bits:Bool) (i:Nat):Prop:=∀j,j<i→(b.getD j []).length≤12∧(bits=true→∀k,k<(b.getD j []).length→(bitlen ((b.getD j []).getD k 0).natAbs:Int)≤256)
theorem rowsTo_end {b bits} (h0:¬(12:Int)<(b.length:Int)) (h:rowsTo b bits b.length):¬bigN b bits b.length=true:=by
  unfold bigN
  simp only [List.take_length,Bool.or_eq_true,Bool.and_eq_true,decide_eq_true_eq,List.any_eq_true,not_or,not_and,not_exists]
  refine ⟨⟨h0,fun hb=>?_⟩,fun r hr=>?_⟩
  · have:mbits b≤256:=mb_le (by decide) fun r hr x hx=>by
      obtain ⟨j,hj,rfl⟩:=mem_getD [] hr
      obtain ⟨k,hk,rfl⟩:=mem_getD 0 hx
      exact (h j hj).2 hb k hk
    omega
  · obtain ⟨j,hj,rfl⟩:=mem_getD [] hr
    have:=(h j hj).1;omega
theorem big_row {b bits i} (hi:i<b.length) (h:(12:Int)<((b.getD i []).length:Int)):bigN b bits b.length=true:=by
  unfold bigN
  simp only [List.take_length,Bool.or_eq_true,decide_eq_true_eq,List.any_eq_true]
  exact .inr ⟨_,getD_mem [] hi,h⟩
theorem big_len {b bits} (h:(12:Int)<(b.length:Int)):bigN b bits b.length=true:=by
  unfold bigN
  simp only [Bool.or_eq_true,decide_eq_true_eq]
  exact .inl (.inl h)
def frS (G:Nat→Nat→Int) (k:Nat):Rat:=gsE (qG G) k k k
def frM (G:Nat→Nat→Int) (i j:Nat):Rat:=gsE (qG G) j i j/gsE (qG G) j j j
theorem frS_ne {G k} (hs:SymG G) (hp:PosU G (k+1)):gsE (qG G) k k k≠0:=by
  have h:=(gsE_pos hs (hp.le (by omega):PosU G k)).2 (hp k (by omega))
  intro e;rw [e] at h;exact absurd h (by decide)
theorem frM_eq {G:Nat→Nat→Int} (hs:SymG G) {j:Nat} (hp:PosU G (j+1)) {i:Nat} (hi:j≤i):frM G i j=(uE G j i j:Rat)/(uE G j j j:Rat):=by
  have h:=hp.le (show j≤j+1 by omega)
  have hd:0<uD G j:=hp.uD (by omega)
  have hd2:=rat_ne (show uD G j≠0 by omega)
  have hu:=rat_ne (show uE G j j j≠0 by have:=hp j (by omega);omega)
  unfold frM
  rw [gsE_frac hs h hi (Nat.le_refl j),gsE_frac hs h (Nat.le_refl j) (Nat.le_refl j)]
  grind
end Fw
namespace Fw
open Go Go.Proofs
end Fw
namespace Fw
open Go
theorem SzM.up {n m b} (h:SzM n b) (hm:n≤m):SzM m b:=fun i k=>(h i k).up hm
theorem SzL.up {n m u} (h:SzL n u) (hm:n≤m):SzL m u:=fun k=>(h k).up hm
theorem SzL.nil (n):SzL n []:=fun k=>by rw [List.getD_nil];exact Sz.zero _
theorem SzL.sm {m u} (h:SzL m u) (hm:m≤549755813888):∀x∈u,Sm x:=fun x hx=>by
  obtain ⟨i,hi,rfl⟩:=mem_getD 0 hx
  exact (h i).sm hm
theorem sgn0 {x y:Int}:(x-y).sign=0↔x=y:=by rw [Int.sign_eq_zero_iff_zero];omega
end Fw
namespace Fw
open Go Go.Proofs
end Fw
namespace Fw
open Go
def matF (a:List (List Int)):Nat→Nat→Int:=fun i j=>(a.getD i []).getD j 0
def sqN (a:List (List Int)) (i:Nat):Bool:=(a.take i).all (fun r=>decide ((r.length:Int)=(a.length:Int)))
def symB (a:List (List Int)):Bool:=(List.range a.length).all (fun i=>(List.range i).all (fun k=>decide (matF a i k=matF a k i)))
theorem sqN_succ {a:List (List Int)} {i} (h:i<a.length):sqN a (i+1)=(sqN a i&&decide (((a.getD i []).length:Int)=(a.length:Int))):=by
  unfold sqN
  rw [←take_app (d:=[]) h,List.all_append]
  simp
def qshape (a:List (List Int)):Int:=if bigN a true a.length=true then 40 else if a.length=0 then 41 else if sqN a a.length=true then (if symB a=true then 0 else 220) else 8
theorem sqN_iff {a}:sqN a a.length=true↔∀i,i<a.length→(a.getD i []).length=a.length:=by
  unfold sqN
  rw [List.take_length,List.all_eq_true]
  constructor
  · intro h i hi;have:=of_decide_eq_true (h _ (getD_mem [] hi));omega
  · intro h r hr;obtain ⟨i,hi,rfl⟩:=mem_getD [] hr;have:=h i hi;simp only [decide_eq_true_eq];omega
theorem symB_iff {a}:symB a=true↔∀i,i<a.length→∀k,k<i→matF a i k=matF a k i:=by
  simp [symB]
theorem mbits_row {a:List (List Int)} {i} (hi:i<a.length):mbits [a.getD i []]≤mbits a:=by
  have h0:(0:Int)≤mbits a:=mb_ge a 0
  show vbN 0 (a.getD i [])≤mbits a
  exact vbN_le h0 fun x hx=>mb_mem (n:=0) (getD_mem [] hi) hx
theorem big_bits {a:List (List Int)} {i} (hi:i<a.length) (h:(256:Int)<mbits [a.getD i []]):bigN a true a.length=true:=by
  have:=mbits_row hi
  unfold bigN
  simp only [List.take_length,Bool.or_eq_true,Bool.and_eq_true,decide_eq_true_eq,List.any_eq_true]
  exact .inl (.inr ⟨trivial,by omega⟩)
theorem rowsTo_next {a:List (List Int)} {i} (h:rowsTo a true i) (h1:¬(12:Int)<((a.getD i []).length:Int)) (h2:¬(256:Int)<mbits [a.getD i []]):rowsTo a true (i+1):=by
  intro j hj
  by_cases e:j=i
  · subst e
    refine ⟨by omega,fun _ k hk=>?_⟩
    have h3:(bitlen ((a.getD j []).getD k 0).natAbs:Int)≤vbN 0 (a.getD j []):=vbN_mem (getD_mem 0 hk)
    have h4:mbits [a.getD j []]=vbN 0 (a.getD j []):=rfl
    omega
  · exact h j (by omega)
theorem qshape_1 {a} (h:bigN a true a.length=true):qshape a=40:=if_pos h
theorem qshape_2 {a} (h:¬bigN a true a.length=true) (h2:a.length=0):qshape a=41:=by unfold qshape;rw [if_neg h,if_pos h2]
theorem qshape_3 {a} (h:¬bigN a true a.length=true) (h2:¬a.length=0) (h3:¬sqN a a.length=true):qshape a=8:=by unfold qshape;rw [if_neg h,if_neg h2,if_neg h3]
theorem qshape_4 {a} (h:¬bigN a true a.length=true) (h2:¬a.length=0) (h3:sqN a a.length=true) (h4:¬symB a=true):qshape a=220:=by unfold qshape;rw [if_neg h,if_neg h2,if_pos h3,if_neg h4]
theorem qshape_5 {a} (h:¬bigN a true a.length=true) (h2:¬a.length=0) (h3:sqN a a.length=true) (h4:symB a=true):qshape a=0:=by unfold qshape;rw [if_neg h,if_neg h2,if_pos h3,if_pos h4]
theorem not_sq {a:List (List Int)} {i} (hi:i<a.length) (h:((a.getD i []).length:Int)≠(a.length:Int)):¬sqN a a.length=true:=fun e=>h (by rw [sqN_iff.1 e i hi])
theorem not_sym {a:List (List Int)} {i k} (hi:i<a.length) (hk:k<i) (h:(matF a i k-matF a k i).sign≠0):¬symB a=true:=fun e=>h (sgn0.2 (symB_iff.1 e i hi k hk))
structure Sqm (a:List (List Int)):Prop where
  z:SzM 256 a
  n:a.length≤12
  n0:0<a.length
  q:∀i,i<a.length→(a.getD i []).length=a.length
  s:SymG (matF a)
theorem matF_out {a:List (List Int)} (h:∀i,i<a.length→(a.getD i []).length=a.length) {i j} (hij:¬(i<a.length∧j<a.length)):matF a i j=0:=by
  unfold matF
  by_cases hi:i<a.length
  · rw [List.getD_eq_getElem?_getD,List.getElem?_eq_none (by rw [h i hi];omega)];rfl
  · have e:a.getD i []=[]:=by rw [List.getD_eq_getElem?_getD,List.getElem?_eq_none (by omega)];rfl
    rw [e];rfl
theorem matF_sym {a:List (List Int)} (h:∀i,i<a.length→(a.getD i []).length=a.length) (hs:∀i,i<a.length→∀k,k<i→matF a i k=matF a k i):SymG (matF a):=by
  intro i j
  by_cases hij:i<a.length∧j<a.length
  · rcases Nat.lt_trichotomy i j with h1 | h1 | h1
    · exact (hs j hij.2 i h1).symm
    · rw [h1]
    · exact hs i hij.1 j h1
  · rw [matF_out h hij,matF_out h (fun e=>hij ⟨e.2,e.1⟩)]
theorem sqm_of {a} (h:qshape a=0):Sqm a:=by
  by_cases h1:bigN a true a.length=true
  · rw [qshape_1 h1] at h;exact absurd h (by decide)
  · by_cases h2:a.length=0
    · rw [qshape_2 h1 h2] at h;exact absurd h (by decide)
    · by_cases h3:sqN a a.length=true
      · by_cases h4:symB a=true
        · obtain ⟨b1,b2,b3⟩:=bigN_no h1
          exact ⟨mbits_Sz (b2 rfl),b1,by omega,sqN_iff.1 h3,matF_sym (sqN_iff.1 h3) (symB_iff.1 h4)⟩
        · rw [qshape_4 h1 h2 h3 h4] at h;exact absurd h (by decide)
      · rw [qshape_3 h1 h2 h3] at h;exact absurd h (by decide)
theorem matF_Sz {n a} (h:SzM n a) (i j):Sz n (matF a i j):=h i j
def quadE (a:List (List Int)):Int:=if qshape a≠0 then qshape a else if gOk (matF a) a.length=true then 0 else 221
theorem quadE_1 {a} (h:qshape a≠0):quadE a=qshape a:=if_pos h
theorem quadE_2 {a} (h:¬qshape a≠0) (h2:gOk (matF a) a.length=false):quadE a=221:=by
  unfold quadE;rw [if_neg h,if_neg (by simp [h2])]
theorem quadE_3 {a} (h:¬qshape a≠0) (h2:gOk (matF a) a.length=true):quadE a=0:=by
  unfold quadE;rw [if_neg h,if_pos h2]
theorem quad_ok {a} (h:quadE a=0):Sqm a∧PosU (matF a) a.length:=by
  unfold quadE at h
  by_cases h1:qshape a≠0
  · rw [if_pos h1] at h;exact absurd h h1
  · rw [if_neg h1] at h
    by_cases h2:gOk (matF a) a.length=true
    · exact ⟨sqm_of (by omega),gOk_iff.1 h2⟩
    · rw [if_neg h2] at h;exact absurd h (by decide)
theorem combV_Sz {n m x b} (hx:SzL n x) (hb:SzM m b):SzL (n+m+b.length) (combV x b):=by
  intro k
  by_cases hk:k<(b.getD 0 []).length
  · rw [combV_get hk];exact combN_Sz hx hb k _
  · rw [List.getD_eq_getElem?_getD,List.getElem?_eq_none (by rw [combV_len];omega)];exact Sz.zero _
def dI (i j:Nat):Nat:=if j≤i then i else i+1
def posF (A B C:Int):Prop:=0<A∧B*B<4*(A*C)
instance (A B C:Int):Decidable (posF A B C):=by unfold posF;infer_instance
def kF (A B:Int):Int:=(A-B).fdiv (A+A)
def sB (A B:Int):Int:=B+(A*kF A B+A*kF A B)
def sC (A B C:Int):Int:=(A*kF A B+B)*kF A B+C
def redF (A B C:Int):Prop:=A<C∨(A=C∧0≤B)
instance (A B C:Int):Decidable (redF A B C):=by unfold redF;infer_instance
def gFlag (A B:Int):Nat:=if 0≤B∧B≤A then 0 else 1
theorem sq_nn (x:Int):0≤x*x:=by
  rcases Int.le_total 0 x with h | h
  · exact Int.mul_nonneg h h
  · exact Int.mul_nonneg_of_nonpos_of_nonpos h h
theorem kF_rng {A B:Int} (hA:0<A):A*kF A B+A*kF A B≤A-B∧A-B<A*kF A B+A*kF A B+(A+A):=by
  have h1:=Int.fmod_nonneg_of_pos (A-B) (show 0<A+A by omega)
  have h2:=Int.fmod_lt_of_pos (A-B) (show 0<A+A by omega)
  have h3:=Int.mul_fdiv_add_fmod (A-B) (A+A)
  have h4:(A+A)*(A-B).fdiv (A+A)=A*kF A B+A*kF A B:=by unfold kF;rw [Int.add_mul]
  omega
theorem sB_rng {A B:Int} (hA:0<A) : -A<sB A B∧sB A B≤A:=by
  have:=kF_rng (B:=B) hA
  unfold sB;omega
theorem disc_s (A B C:Int):sB A B*sB A B-4*(A*sC A B C)=B*B-4*(A*C):=by
  unfold sB sC
  generalize kF A B=k
  grind
theorem pos_s {A B C:Int} (h:posF A B C):sB A B*sB A B<4*(A*sC A B C)∧0<sC A B C:=by
  have h1:=disc_s A B C
  have h2:sB A B*sB A B<4*(A*sC A B C):=by have:=h.2;omega
  refine ⟨h2,?_⟩
  have h3:=sq_nn (sB A B)
  rcases Int.lt_or_le 0 (sC A B C) with h4 | h4
  · exact h4
  · have:=Int.mul_nonpos_of_nonneg_of_nonpos (Int.le_of_lt h.1) h4
    omega
theorem kF_0 {A B:Int} (hA:0<A) (h:0≤B∧B≤A):kF A B=0:=by
  unfold kF
  rw [Int.fdiv_eq_ediv_of_nonneg _ (by omega)]
  exact Int.ediv_eq_zero_of_lt (by omega) (by omega)
theorem g_dec {A B C:Int} (h:posF A B C∧¬redF A (sB A B) (sC A B C)):2*(sC A B C).toNat+gFlag (sC A B C) (-(sB A B))<2*A.toNat+gFlag A B:=by
  obtain ⟨hp,hr⟩:=h
  obtain ⟨h1,h2⟩:=pos_s hp
  have hA:=hp.1
  have h3:=sB_rng (B:=B) hA
  unfold redF at hr
  by_cases hc:sC A B C<A
  · have h4:gFlag (sC A B C) (-(sB A B))≤1:=by unfold gFlag;split <;> omega
    omega
  · have h5:A=sC A B C:=by omega
    have h6:sB A B<0:=by omega
    have h7:gFlag (sC A B C) (-(sB A B))=0:=by unfold gFlag;rw [if_pos (by omega)]
    have h8:gFlag A B=1:=by
      unfold gFlag
      rw [if_neg]
      intro h9
      have:=kF_0 hA h9
      have h10:sB A B=B:=by unfold sB;rw [this];omega
      omega
    omega
def gs (A B C x y z t:Int):(Int×Int×Int)×List Int:=
  if h:posF A B C∧¬redF A (sB A B) (sC A B C) then gs (sC A B C) (-(sB A B)) A (y+x*kF A B) (-x) (t+z*kF A B) (-z)
  else ((A,sB A B,sC A B C),[x,y+x*kF A B,z,t+z*kF A B])
termination_by 2*A.toNat+gFlag A B
decreasing_by exact g_dec h
def g1 (A B C:Int):Int×Int×Int:=(gs A B C 1 0 0 1).1
end Fw
namespace Fw
open Go Go.Proofs
theorem c_law22_own (z:Int):Fn Tryz.prog 153 [kZ.is z] (kZ.is z):=by
 refine aK Tryz.func153 E E fun m w=>cG 0 E fun y y_v y_n y_l=>Cr<|a6 .n E fun b1=>a8 .n aZ fun b2=>Wr<|Wa E<|Wn<|aa<|ca 93 kLimb<|ah<|Wm E<|Ws (aM E bK E)<|Ws (ae (p:=kN.is y.2) E (ac 2 E) (aN Li) bM E)<|bL 0 .n E E E Lr U27 bO (by simp;omega) fun v3=>Wa E<|Wn<|aa ?_
 refine ah<|Wm E<|Ws (bC U27 bO (bZ E (bF (x:=77) (by omega)) (bZ E (bF (x:=78) (by omega)) (bZ E (bF (x:=79) (by omega)) (bZ E (bF (x:=80) (by omega)) (bZ E (bF (x:=81) (by omega)) (bZ E (bF (x:=82) (by omega)) (bZ E (bF (x:=83) (by omega)) (bZ E (bF (x:=84) (by omega)) (bZ E (bF (x:=85) (by omega)) bw))))))))) E (by decide))<|bL 0 .n E E E Lr U27 bO (by simp;omega) fun v4=>Wa E<|Wn<|aa<|bJ 0 E (kp 0 E (kp 1 E (kp 2 E (.hit (i:=3) E (kp 4 E (kp 5 E (kp 6 E (kp 7 E (kp 8 E (kp 9 E (.hit (i:=10) E .nil))))))))))) ?_
 refine ba (Γ:=[.fr (VP.pt b1 0),.fr (kBool.is y.1),.fr (kN.is (y.2++[77,78,79,80,81,82,83,84,85])),.fr (VP.pt b1 1),.fr (kN.is y.2),.fr (kN6.is (y.2.length:Int)),.fr (kN.is ((y.2++[77,78,79,80,81,82,83,84,85]).take y.2.length)),.fr (kI.is (y.1,((y.2++[77,78,79,80,81,82,83,84,85]).take y.2.length)))]) (J E (fun N=>aM E cw E) (J E (fun N=>ae (p:=kBool.is y.1) E (mN N 1 E) (aU Li) cy E) (om E E (J E (fun N=>aM E bK E) (J E (fun N=>ae (p:=kN.is y.2) E (mN N 1 E) (aN Li) bM E) (J E (fun N=>aA E U27) (J E (fun N=>O.slH y.2.length E E U27 aP E (by simp)) (J E (fun N=>cH eo E (cU E (cU E bH)) (.cons E (aU Li) (.cons E (aN Li) (.nil _)))) oz))))))))<|fun σ1=>?_
 refine aG .n (aD (l:=kI) (u:=(y.1,((y.2++[77,78,79,80,81,82,83,84,85]).take y.2.length))) 0 E E E ab E Lr)<|Wn<|am<|dJ (b':=OB.box b2 29 kZ z) 0 E (OB.I_Z (own_val y_v) (by simp;omega)) ?_
 exact Qd E (a5 E (ac 0 E) ab ak) ⟨E,E⟩
theorem c_law22_eq (x y:Bool×List Nat):Fn Tryz.prog 166 [kI.is x,kI.is y] (kBool.is (decide (x=y))):=by
 refine aK Tryz.func166 E E fun m w=>Cr<|a6 .n E fun b1=>a6 .n E fun b2=>Wa E<|Wn<|aa<|Cr<|Ws (aM E cw E)<|Ws (ae E (ac 1 E) (aU Li) cy E)<|Ws (aM E cw E)<|Ws (ae E (ac 0 E) (aU Li) cy E)<|Ws (O.neB E E U4)<|Wm E ?_
 refine bV 11 E (fun h_t11=>?_)<|fun h_t11=>?_
 ·
  refine Kt E E<|Kt E E<|Kt E E<|Kt E E<|Kt E E<|Kt E E<|Kt E E<|Ws (ch E E)<|Wn<|em E<|Cr<|Wa E<|Wn<|am<|aQ<|tl 4 E (y:=(decide (x=y))) (by rw [eq_comm,decide_eq_false_iff_not];intro e;exact h_t11 (by rw [e])) ?_
  exact Qd E (ar E ak) ⟨E,E⟩
 ·
  refine Wg E E (aM E bK E)<|Wg E E (ae E (ac 1 E) (aN Li) bM E)<|Wg E E (aA E U27)<|Wg E E (aM E bK E)<|Wg E E (ae E (ac 0 E) (aN Li) bM E)<|Wg E E (aA E U27)<|Wg E E (bt E E)<|Ws (cb E E)<|Wn ?_
  refine aB E (fun h_t19=>?_)<|fun h_t19=>?_
  ·
   refine Cr<|Wa E<|Wn<|am<|aQ<|tl 4 E (y:=(decide (x=y))) (by rw [eq_comm,decide_eq_false_iff_not];intro e;exact h_t19 (by rw [e])) ?_
   exact Qd E (ar E ak) ⟨E,E⟩
  ·
   refine Ck<|aa<|aa<|aR (i:=13) E bu fun hB=>ah<|Wa E<|Wn<|aw<|bN (fun (i:Nat)=>i≤x.2.length∧x.2.take i=y.2.take i) (fun (i:Nat)=>[(2,VP.pt b1 0),(3,VP.pt b2 0),(5,kN6.is (i:Int))]) (fun (i:Nat)=>[OB.box b2 29 kI y,OB.box b1 29 kI x]) (fun (i:Nat)=>x.2.length-i) 0 ⟨Nat.zero_le _,E⟩ (Z E (Z E (ao E (ag (y:=(0:Int)) (by omega)) ai))) (au _) ?_
   intro i ⟨hi,ht⟩
   refine aa<|Cr<|Wm E<|Ws (aM E bK E)<|Ws (ae E (ac 1 E) (aN Li) bM E)<|Ws (aA E U27)<|Ws (aS E E)<|Wn ?_
   refine aB E (fun h_t24=>?_)<|fun h_t24=>?_
   ·
    refine Ck<|aa<|aw<|aa ?_
    refine ba (Γ:=[.fr (VP.pt b1 1),.fr (kN.is x.2),.fr (kN6.is (i:Int)),.fr (VP.pim kLimb (x.2.getD i 0)),.fr ((kInt .u32).is ((x.2.getD i 0):Int)),.fr (VP.pt b2 1),.fr (kN.is y.2),.fr (kN6.is (i:Int)),.fr (VP.pim kLimb (y.2.getD i 0)),.fr ((kInt .u32).is ((y.2.getD i 0):Int)),.fr (kBool.is (decide (((x.2.getD i 0):Int)≠((y.2.getD i 0):Int))))]) (J E (fun N=>aM E bK E) (J E (fun N=>ae E (mN N 1 E) (aN Li) bM E) (om E E (J E (fun N=>aT i E E U27 aP E (v:=(x.2.getD i 0)) (gd 0 (by omega))) (J E (fun N=>aV (aO E aP) (bQ _)) (J E (fun N=>aM E bK E) (J E (fun N=>ae E (mN N 0 E) (aN Li) bM E) (om E E (J E (fun N=>aT i E E U27 aP E (v:=(y.2.getD i 0)) (gd 0 (by omega))) (J E (fun N=>aV (aO E aP) (bQ _)) (J E (fun N=>bt E E) oz)))))))))))<|fun σ1=>?_
    refine Wn ?_
    refine aB E (fun h_t37=>?_)<|fun h_t37=>?_
    ·
     refine Cr<|Wa E<|Wn<|am<|bE<|aQ<|aQ<|bE<|aQ<|tl 4 E (y:=(decide (x=y))) (by rw [eq_comm,decide_eq_false_iff_not];intro e;exact h_t37 (by rw [e])) ?_
     exact Qd E (ar E ak) ⟨E,E⟩
    ·
     refine cc<|Qb<|ah<|Wm E<|Ws (aI E E (c:=((i:Int)+1)) (ay (by omega)))<|Wa E<|aj ?_
     exact bG (i+1) (by omega) ⟨by omega,eq_take (d:=0) (by omega) (by omega) ht (by omega)⟩ (Z E (Z E (ao E (ag (y:=(((i+1):Nat):Int)) (by omega)) ai)))<|au _
   ·
    refine Ex<|Cr<|Wa E<|Wn<|am<|tl 4 E (y:=(decide (x=y))) (by rw [eq_comm,decide_eq_true_iff];exact Prod.ext (by simpa using h_t11) (eq_full (i:=i) (by omega) (by omega) ht)) ?_
    exact Qd E (ar E ak) ⟨E,E⟩
end Fw
