/- What the claim's frame leans on. -/
import Derived.Test.YteoepeionomjlaaX
import Derived.Test.YteoepeionomjlaaW4
