/- Chapter 18 (domains): DomainsTells. -/
import Derived.Test.YtngflgclljfmjaaGreatEngQ2
namespace Go.Eng
open Go
theorem domainsTells (n : Api_Net) (d m : Int) (hn : n.Ok) (_ : okI .i64 d) (_ : okI .u64 m) : palinglaw18_DomainsTells n d m = some true :=
  domainsTells0 n d m fun x hx => by
    have h : x.Ok := hn.1.2 x hx
    exact h.2.2.1
end Go.Eng
