import Derived.Test.YtmpfooibdekppaaGreatDoorEvA
import Derived.Lib.Bytealg
namespace Go.Ev
theorem loop_up {n : Nat} {P : Nat → Prop} (h0 : P n) (hs : ∀ i, i < n → P (i + 1) → P i) : ∀ i, i ≤ n → P i := by
  intro i hi
  obtain ⟨k, hk⟩ : ∃ k, n - i = k := ⟨_, rfl⟩
  induction k generalizing i with
  | zero => have : i = n := by omega
            rw [this]; exact h0
  | succ k ih => exact hs i (by omega) (ih (i + 1) (by omega) (by omega))
set_option linter.unusedVariables false
set_option linter.unusedSimpArgs false
def extIndexByteString:List D→Option D
 | [.str s,.int .u8 c]=>some (.int .i64 (Go.Lib.indexByte s c.toNat.toUInt8))
 | _=>none
abbrev I (n:Int):D:=.int .i64 n
theorem wrap_i64 {n:Int} (h1 : -9223372036854775808≤n) (h2:n≤9223372036854775807):IntKind.wrap .i64 n=n:=by
 simp only [IntKind.wrap,IntKind.signed,IntKind.bits]
 simp
 omega
@[simp] theorem asB_bool (b:Bool) (k:Bool→R):asB (.bool b) k=k b:=rfl
@[simp] theorem asFn_fn (g:FuncId) (c:List D) (k:FuncId→List D→R):asFn (.fn g c) k=k g c:=rfl
@[simp] theorem bI_add (k:IntKind) (a b:Int):bI .add (.int k a) (.int k b)=some (.int k (k.wrap (a + b))):=by simp [bI,binInt]
@[simp] theorem bI_sub (k:IntKind) (a b:Int):bI .sub (.int k a) (.int k b)=some (.int k (k.wrap (a - b))):=by simp [bI,binInt]
@[simp] theorem bI_mul (k:IntKind) (a b:Int):bI .mul (.int k a) (.int k b)=some (.int k (k.wrap (a * b))):=by simp [bI,binInt]
theorem bI_quo (k:IntKind) (a b:Int) (h:b ≠ 0):bI .quo (.int k a) (.int k b)=some (.int k (k.wrap (a.tdiv b))):=by simp [bI,binInt,h]
theorem bI_rem (k:IntKind) (a b:Int) (h:b ≠ 0):bI .rem (.int k a) (.int k b)=some (.int k (a.tmod b)):=by simp [bI,binInt,h]
@[simp] theorem bI_eql (k:IntKind) (a b:Int):bI .eql (.int k a) (.int k b)=some (.bool (decide (a=b))):=by simp [bI,binInt]; rfl
@[simp] theorem bI_neq (k:IntKind) (a b:Int):bI .neq (.int k a) (.int k b)=some (.bool (!decide (a=b))):=by simp [bI,binInt]; rfl
@[simp] theorem bI_lss (k:IntKind) (a b:Int):bI .lss (.int k a) (.int k b)=some (.bool (decide (a < b))):=by simp [bI,binInt]
@[simp] theorem bI_leq (k:IntKind) (a b:Int):bI .leq (.int k a) (.int k b)=some (.bool (decide (a≤b))):=by simp [bI,binInt]
@[simp] theorem bI_gtr (k:IntKind) (a b:Int):bI .gtr (.int k a) (.int k b)=some (.bool (decide (b < a))):=by simp [bI,binInt]
@[simp] theorem bI_geq (k:IntKind) (a b:Int):bI .geq (.int k a) (.int k b)=some (.bool (decide (b≤a))):=by simp [bI,binInt]
@[simp] theorem bS_eql (a b:List UInt8):bS .eql (.str a) (.str b)=some (.bool (decide (a=b))):=by
 simp only [bS,binStr]
 by_cases h:a=b <;> simp [h]
@[simp] theorem bS_neq (a b:List UInt8):bS .neq (.str a) (.str b)=some (.bool (!decide (a=b))):=by
 simp only [bS,binStr]
 by_cases h:a=b <;> simp [h]
theorem bS_add (a b:List UInt8) (h:a.length + b.length≤4611686018427387904):bS .add (.str a) (.str b)=some (.str (a++b)):=by simp [bS,binStr,maxStr,h]
@[simp] theorem bB_eql (a b:Bool):bB .eql (.bool a) (.bool b)=some (.bool (a == b)):=rfl
@[simp] theorem bB_neq (a b:Bool):bB .neq (.bool a) (.bool b)=some (.bool (!(a == b))):=rfl
@[simp] theorem unOp_not (a:Bool):unOp .not (.bool a)=some (.bool (!a)):=rfl
@[simp] theorem unOp_neg (k:IntKind) (a:Int):unOp .neg (.int k a)=some (.int k (k.wrap (0 - a))):=rfl
@[simp] theorem lnS_str (s:List UInt8):lnS (.str s)=some (.int .i64 s.length):=rfl
@[simp] theorem lnL_list (r:List (List D)):lnL (.list r)=some (.int .i64 r.length):=rfl
@[simp] theorem lnL_sl0:lnL .sl0=some (.int .i64 0):=rfl
@[simp] theorem lnL_sl (b o n:Nat):lnL (.sl b o n)=some (.int .i64 n):=rfl
@[simp] theorem cI_int (k k':IntKind) (n:Int):cI k (.int k' n)=some (.int k (k.wrap n)):=rfl
@[simp] theorem extract_tup (ds:List D) (i:Nat):extract (.tup ds) i=ds[i]?:=rfl
@[simp] theorem tupOf_two (a b:D) (l:List D):tupOf (a :: b :: l) = .tup (a :: b :: l):=rfl
@[simp] theorem tupOf_one (a:D):tupOf [a]=a:=rfl
@[simp] theorem tupOf_nil:tupOf [] = .tup []:=rfl
@[simp] theorem ret_nil (H:Heap):ret_ H []=some (.tup [],H):=rfl
@[simp] theorem ret_one (H:Heap) (a:D):ret_ H [some a]=some (a,H):=rfl
@[simp] theorem ret_two (H:Heap) (a b:D):ret_ H [some a,some b]=some (.tup [a,b],H):=rfl
@[simp] theorem ret_three (H:Heap) (a b c:D):ret_ H [some a,some b,some c]=some (.tup [a,b,c],H):=rfl
@[simp] theorem ret_four (H:Heap) (a b c d:D):ret_ H [some a,some b,some c,some d]=some (.tup [a,b,c,d],H):=rfl
theorem ix_nat (s:List UInt8) (i:Nat):ix (.str s) (.int .i64 i)=(s[i]?).map fun c=>.int .u8 c.toNat:=by simp [ix]
theorem ix_get {s:List UInt8} {n:Int} (h0:0≤n) (h:n.toNat < s.length):ix (.str s) (.int .i64 n)=some (.int .u8 s[n.toNat].toNat):=by
 simp [ix,h0,h]
@[simp] theorem ld_el (a:Bool) (z:Nat) (H:Heap) (row:List D) (f:Nat):ld a z H (.el row f)=part row (f,z,a):=rfl
@[simp] theorem fa_el (row:List D) (f o:Nat):fa o (.el row f)=some (.el row (f + o)):=rfl
@[simp] theorem fa_ptr (b i f o:Nat):fa o (.ptr b i f)=some (.ptr b i (f + o)):=rfl
@[simp] theorem fd_agg (q:Nat×Nat×Bool) (cs:List D):fd q (.agg cs)=part cs q:=rfl
theorem part_agg (row:List D) (f z:Nat):part row (f,z,true)=if f + z≤row.length then some (.agg ((row.drop f).take z)) else none:=rfl
theorem ia_list {esz:Nat} {H:Heap} {rows:List (List D)} {k:IntKind} {n:Int} (h0:0≤n) (h1:n.toNat < rows.length) (he:(rows[n.toNat]).length=esz):ia esz H (.list rows) (.int k n)=some (.el rows[n.toNat] 0):=by
 simp [ia,h0,h1,he]
theorem call_pure (E:Env) (rec:Rec) (g:FuncId) (ds:List D) (H:Heap):callFn E rec .pure g ds H=(optAll (readA H) ds).bind fun ts=>(run E rec false g ts).bind fun t=>some (t,H):=rfl
theorem call_own (E:Env) (rec:Rec) (g:FuncId) (ds:List D) (H:Heap):callFn E rec .own g ds H=(optAll (readA H) ds).bind fun ts=>(runO E rec g ts).bind fun t=>some (layT depth t H):=rfl
theorem call_view (E:Env) (rec:Rec) (g:FuncId) (ds:List D) (H:Heap):callFn E rec .view g ds H=(optAll (readT true depth H) ds).bind fun ts=>(run E rec true g ts).bind fun t=>some (t,ds.foldl (fun K d=>killT depth H d K) H):=rfl
theorem call_raw (E:Env) (g:FuncId) (ds:List D) (H:Heap):callFn E (exec E) .raw g ds H=ent E g ds H:=rfl
@[simp] theorem readA_int (H:Heap) (k:IntKind) (i:Int):readA H (.int k i)=readT true depth H (.int k i):=rfl
@[simp] theorem readA_bool (H:Heap) (b:Bool):readA H (.bool b)=readT true depth H (.bool b):=rfl
@[simp] theorem readA_str (H:Heap) (s:List UInt8):readA H (.str s)=readT true depth H (.str s):=rfl
@[simp] theorem readA_list (H:Heap) (r:List (List D)):readA H (.list r)=readT true depth H (.list r):=rfl
@[simp] theorem readA_sl0 (H:Heap):readA H .sl0=readT true depth H .sl0:=rfl
@[simp] theorem readA_sl (H:Heap) (b o n:Nat):readA H (.sl b o n)=readT true depth H (.sl b o n):=rfl
@[simp] theorem readA_agg (H:Heap) (cs:List D):readA H (.agg cs)=readT true depth H (.agg cs):=rfl
@[simp] theorem readA_tup (H:Heap) (cs:List D):readA H (.tup cs)=readT true depth H (.tup cs):=rfl
@[simp] theorem readA_el (H:Heap) (row:List D) (f:Nat):readA H (.el row f)=some (.el row f):=rfl
theorem readA_of {H:Heap} {d t:D} (h:readT true depth H d=some t):readA H d=some t:=by
 cases d <;> first | exact h | (cases h; done)
theorem readA_all {H:Heap}:∀ {ds ts:List D},optAll (readT true depth H) ds=some ts→optAll (readA H) ds=some ts
 | [],_,h=>h
 | d :: ds,ts,h=>by
  obtain ⟨t,h1,h⟩:=Option.bind_eq_some_iff.mp h
  obtain ⟨ts',h2,h⟩:=Option.bind_eq_some_iff.mp h
  cases h
  show (readA H d).bind _=_
  rw [readA_of h1,Option.bind_some,readA_all h2]; rfl
@[simp] theorem optAll_nil {α β:Type} (f:α→Option β):optAll f []=some []:=rfl
@[simp] theorem optAll_cons {α β:Type} (f:α→Option β) (a:α) (l:List α):optAll f (a :: l)=(f a).bind fun b=>(optAll f l).bind fun bs=>some (b :: bs):=rfl
@[simp] theorem readT_int (l:Bool) (n:Nat) (H:Heap) (k:IntKind) (i:Int):readT l n H (.int k i)=some (.int k i):=by cases n <;> rfl
@[simp] theorem readT_bool (l:Bool) (n:Nat) (H:Heap) (b:Bool):readT l n H (.bool b)=some (.bool b):=by cases n <;> rfl
@[simp] theorem readT_str (l:Bool) (n:Nat) (H:Heap) (s:List UInt8):readT l n H (.str s)=some (.str s):=by cases n <;> rfl
@[simp] theorem readT_list (n:Nat) (H:Heap) (r:List (List D)):readT true (n + 1) H (.list r)=some (.list r):=rfl
@[simp] theorem readT_list9 (H:Heap) (r:List (List D)):readT true depth H (.list r)=some (.list r):=rfl
@[simp] theorem readT_sl0 (l:Bool) (n:Nat) (H:Heap):readT l (n + 1) H .sl0=some (.list []):=rfl
@[simp] theorem readT_sl09 (l:Bool) (H:Heap):readT l depth H .sl0=some (.list []):=rfl
@[simp] theorem readT_agg (l:Bool) (n:Nat) (H:Heap) (cs:List D):readT l (n + 1) H (.agg cs)=(optAll (readT l n H) cs).map .agg:=rfl
@[simp] theorem readT_agg9 (l:Bool) (H:Heap) (cs:List D):readT l depth H (.agg cs)=(optAll (readT l 8 H) cs).map .agg:=rfl
@[simp] theorem readT_tup (l:Bool) (n:Nat) (H:Heap) (cs:List D):readT l (n + 1) H (.tup cs)=(optAll (readT l n H) cs).map .tup:=rfl
@[simp] theorem readT_tup9 (l:Bool) (H:Heap) (cs:List D):readT l depth H (.tup cs)=(optAll (readT l 8 H) cs).map .tup:=rfl
theorem run_ent (E:Env) (l:Bool) (g:FuncId) (ts:List D):run E (exec E) l g ts=(ent E g ts []).bind fun q=>readT l depth q.2 q.1:=rfl
theorem runO_ent (E:Env) (g:FuncId) (ts:List D):runO E (exec E) g ts=(ent E g ts []).bind fun q=>(takeT depth q.1 q.2).map (·.1):=rfl
end Go.Ev
