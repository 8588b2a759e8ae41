/- A part of the proof: texts put together and cut down by a program of mine (wip/gen/mini.py). -/
import Derived.Test.YtffcefoadaogbaaGreatS6
namespace Go.Proofs.YtffcefoadaogbaaGreat
open Go.RowKit
open Go.Proofs.Tryz
set_option linter.unusedVariables false
set_option maxRecDepth 100000
set_option maxHeartbeats 16000000
theorem Rd.grownP{w w':World}{size:Nat}{A:Option Addr}{n c:Nat}{xs:List Value}(h:Rd w size A n c xs){row:Option Nat}(hg:w.grownBy w' row)(hne:0<n→∀ a,A=some a→row≠some a.block):Rd w' size A n c xs:=by
 refine⟨h.1,h.2.1,h.2.2.1,fun hn=>?_⟩;exact(h.grown hg (hne (Nat.pos_of_ne_zero fun h0=>by subst h0;simp at hn))).2.2.2 hn
theorem ext_of_grown_new{w0 w w':World}{b:Nat}(e:Ext w0 w)(h:w.grownBy w' (some b))(hb:w0.heap.size≤b):Ext w0 w':=Below.trans e (below_of_grown h e.size (fun k hk=>by cases hk;exact hb))
end Go.Proofs.YtffcefoadaogbaaGreat
